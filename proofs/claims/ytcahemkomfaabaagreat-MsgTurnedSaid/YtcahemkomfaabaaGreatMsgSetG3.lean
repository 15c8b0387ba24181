/- Words for the law MsgSet: R6b, Own, R6ends, R6Of, R6By, R7a. -/
import Derived.Test.YtcahemkomfaabaaGreatMsgSetG2
set_option linter.unusedSimpArgs false
set_option linter.unusedVariables false
set_option maxHeartbeats 32000000
set_option maxRecDepth 1000000
namespace Go.Proofs.YtcahemkomfaabaaGreat
open Go.RowKit
theorem both_any (w : World) (va vb : Value) (a b : RunL) (ha : RunAt w va a) (fa : Fits a) (hb : RunAt w vb b) (fb : Fits b) :
 Calls Tryz.prog 179 #[va, vb] w fun e w' => e = .returned (.bool (tf (RightR a ∧ RightR b))) ∧ Frm NoS w w' := by
 have HA := Lib.hid (sRight_any w va a ha fa)
 have HB := Lib.hid (fun w' h => sRight_any w' vb b (Rd.keep0 hb h) fb)
 clear ha fa hb fb
 by_cases h : RightR a
 · rw [show (RightR a ∧ RightR b) = RightR b by simp [h]]
   rw [tf_true h] at HA
   generalize tf (RightR b) = t at *
   clear h
   go_enter Tryz.func179, Tryz.ntmps179
   go_wp2_with (first | (go_at_call 171; refine (HB.out w1 hw1).mono ?_; rintro e w2 ⟨rfl, hw2⟩) | (go_at_call 171; refine HA.out.mono ?_; rintro e w1 ⟨rfl, hw1⟩))
   go_ret
   exact ⟨rfl, hw1.then1 hw2⟩
 · rw [tf_false (fun hh => h hh.1)]
   rw [tf_false h] at HA
   clear h HB
   go_enter Tryz.func179, Tryz.ntmps179
   go_wp2_with (go_at_call 171; refine HA.out.mono ?_; rintro e w1 ⟨rfl, hw1⟩)
   go_ret
   exact ⟨rfl, hw1⟩
theorem inR_take_succ {l : RunL} {k : Nat} (n : Int) (hk : k < l.length) : InR (l.take (k + 1)) n ↔ InR (l.take k) n ∨ ((l.getD k (0, 0)).1 ≤ n ∧ n ≤ (l.getD k (0, 0)).2) := by
 rw [take_succ (0, 0) hk, inR_snoc]
theorem inR_take {l : RunL} {k : Nat} {n : Int} (h : InR (l.take k) n) : InR l n := by
 obtain ⟨r, hr, h⟩ := h
 exact ⟨r, List.mem_of_mem_take hr, h⟩
theorem r6Has_any (w : World) (v : Value) (l : RunL) (x : Int) (hv : RunAt w v l) :
 Calls Tryz.prog 154 #[v, .int .i64 x] w fun e w' => e = .returned (.bool (tf (InR l x))) ∧ w' = w := by
 rcases Rd.shape hv with ⟨ad, rfl, h0⟩ | ⟨b, off, c, rfl, hmax⟩
 · obtain rfl : l = [] := List.eq_nil_of_length_eq_zero h0
   rw [tf_false (inR_nil x)]
   clear hv
   go_enter Tryz.func154, Tryz.ntmps154
   go_wp2
   go_loop [8] (fun i => i = .int .i64 0) (fun _ => 0)
   case atStart => rfl
   case round =>
    obtain rfl := hrel
    go_wp2
    go_ret
    exact ⟨rfl, rfl⟩
 · have HH := Lib.hid hv; clear hv
   generalize hn : l.length = n at *
   have HN := Lib.hid hn; clear hn
   go_enter Tryz.func154, Tryz.ntmps154
   go_wp2
   go_loop [8] (fun i => ∃ k : Nat, k ≤ n ∧ i = .int .i64 k ∧ tf (InR (l.take k) x) = false) (fun i => n - (intOf i).toNat)
   case atStart => exact ⟨0, Nat.zero_le _, rfl, tf_false (inR_nil x)⟩
   case round =>
    obtain ⟨k, hk, rfl, hr⟩ := hrel
    have HR := Lib.hid (tf_not.1 hr); clear hr
    by_cases hlt : k < n
    · obtain ⟨q1, q2⟩ := run_at HH.out HN.out.symm k (by rw [HN.out]; exact hlt)
      have hs := inR_take_succ (l := l) x (show k < l.length by rw [HN.out]; exact hlt)
      have HS := Lib.hid hs; clear hs
      generalize l.getD k (0, 0) = r at *
      by_cases c1 : r.1 ≤ x
      · by_cases c2 : x ≤ r.2
        · go_wp2
          go_ret
          exact ⟨ret_bool (tf_true (inR_take (HS.out.2 (.inr ⟨c1, c2⟩)))).symm, rfl⟩
        · go_wp2
          go_round
          case rel => exact ⟨k + 1, by omega, by go_num, tf_false fun h => (HS.out.1 h).elim HR.out (fun h => by omega)⟩
          case measure => simp [intOf]; omega
      · go_wp2
        go_round
        case rel => exact ⟨k + 1, by omega, by go_num, tf_false fun h => (HS.out.1 h).elim HR.out (fun h => by omega)⟩
        case measure => simp [intOf]; omega
    · obtain rfl : k = n := by omega
      have hall : ¬ InR l x := by
       have := HR.out
       rwa [List.take_of_length_le (by rw [HN.out]; exact Nat.le_refl _)] at this
      have HA := Lib.hid hall; clear hall
      go_wp2
      go_ret
      exact ⟨ret_bool (tf_false HA.out).symm, rfl⟩
theorem r6next_any (w : World) (v : Value) (l : List Int) (x : Int) (hv : NumAt w v l) :
 Calls Tryz.prog 153 #[v, .int .i64 x] w fun e w' => e = .returned (.tuple #[.int .i64 ((nextL l x).getD 0), .bool (nextL l x).isSome]) ∧ w' = w := by
 rcases Rd.shape hv with ⟨ad, rfl, h0⟩ | ⟨b, off, c, rfl, hmax⟩
 · obtain rfl : l = [] := List.eq_nil_of_length_eq_zero h0
   clear hv
   go_enter Tryz.func153, Tryz.ntmps153
   go_wp2
   go_loop [6, 7, 11] (fun p o i => p = .int .i64 0 ∧ o = .bool false ∧ i = .int .i64 0) (fun _ _ _ => 0)
   case atStart => exact ⟨rfl, rfl, rfl⟩
   case round =>
    obtain ⟨rfl, rfl, rfl⟩ := hrel
    go_wp2
    exact bodyPost_ret (v := .tuple #[.int .i64 0, .bool false]) (by simp [results, Tryz.results153, go_sem]) rfl ⟨rfl, rfl⟩
 · have HH := Lib.hid hv; clear hv
   generalize hn : l.length = n at *
   have HN := Lib.hid hn; clear hn
   go_enter Tryz.func153, Tryz.ntmps153
   go_wp2
   go_loop [6, 7, 11] (fun p o i => ∃ k : Nat, k ≤ n ∧ i = .int .i64 k ∧ ((nextL (l.take k) x = none ∧ p = .int .i64 0 ∧ o = .bool false) ∨ ∃ m, nextL (l.take k) x = some m ∧ p = .int .i64 m ∧ o = .bool true)) (fun _ _ i => n - (intOf i).toNat)
   case atStart => exact ⟨0, Nat.zero_le _, rfl, .inl ⟨rfl, rfl, rfl⟩⟩
   case round =>
    obtain ⟨k, hk, rfl, hr⟩ := hrel
    by_cases hlt : k < n
    · have q1 := num_at HH.out HN.out.symm k (by rw [HN.out]; exact hlt)
      have hs : nextL (l.take (k + 1)) x = stepN x (nextL (l.take k) x) (l.getD k 0) := by
       rw [take_succ 0 (show k < l.length by rw [HN.out]; exact hlt), nextL_snoc]
      generalize l.getD k 0 = y at *
      have HS := Lib.hid hs; clear hs
      rcases hr with ⟨h1, rfl, rfl⟩ | ⟨m, h1, rfl, rfl⟩
      · rw [h1] at HS
        clear h1
        by_cases c1 : x < y
        · go_wp2
          go_round
          case rel => exact ⟨k + 1, by omega, by go_num, .inr ⟨y, by rw [HS.out]; simp [stepN, c1], rfl, rfl⟩⟩
          case measure => simp [intOf]; omega
        · go_wp2
          go_round
          case rel => exact ⟨k + 1, by omega, by go_num, .inl ⟨by rw [HS.out]; simp [stepN, c1], rfl, rfl⟩⟩
          case measure => simp [intOf]; omega
      · rw [h1] at HS
        clear h1
        by_cases c1 : x < y
        · by_cases c2 : y < m
          · go_wp2
            go_round
            case rel => exact ⟨k + 1, by omega, by go_num, .inr ⟨y, by rw [HS.out]; simp [stepN, c1, c2], rfl, rfl⟩⟩
            case measure => simp [intOf]; omega
          · go_wp2
            go_round
            case rel => exact ⟨k + 1, by omega, by go_num, .inr ⟨m, by rw [HS.out]; simp [stepN, c2], rfl, rfl⟩⟩
            case measure => simp [intOf]; omega
        · go_wp2
          go_round
          case rel => exact ⟨k + 1, by omega, by go_num, .inr ⟨m, by rw [HS.out]; simp [stepN, c1], rfl, rfl⟩⟩
          case measure => simp [intOf]; omega
    · obtain rfl : k = n := by omega
      rw [List.take_of_length_le (by rw [HN.out]; exact Nat.le_refl _)] at hr
      rcases hr with ⟨h1, rfl, rfl⟩ | ⟨m, h1, rfl, rfl⟩
      · have H1 := Lib.hid h1
        clear h1
        go_wp2
        exact bodyPost_ret (v := .tuple #[.int .i64 0, .bool false]) (by simp [results, Tryz.results153, go_sem]) rfl ⟨by rw [H1.out]; rfl, rfl⟩
      · have H1 := Lib.hid h1
        clear h1
        go_wp2
        exact bodyPost_ret (v := .tuple #[.int .i64 m, .bool true]) (by simp [results, Tryz.results153, go_sem]) rfl ⟨by rw [H1.out]; rfl, rfl⟩
theorem cell_at' {w : World} {b : Nat} {cs : Array Value} {t : TypeId} {f : Nat × Nat} (h : w.heap[b]? = some (.cells cs t f)) (j : Nat) {u : Value} (hu : cs[j]? = some u) : w.cell? ⟨b, j, none⟩ = some u :=
 (cell_of_row w b j cs t f h).trans hu
theorem free_at' {w : World} {b : Nat} {cs : Array Value} {t : TypeId} (h : w.heap[b]? = some (.cells cs t (0, 0))) (j : Nat) : w.frozen? ⟨b, j, none⟩ = false := by simp [World.frozen?, h]
theorem set_at' {w : World} {b : Nat} {cs : Array Value} {t : TypeId} {f : Nat × Nat} (h : w.heap[b]? = some (.cells cs t f)) (j : Nat) (u : Value) : (w.setCell ⟨b, j, none⟩ u).heap[b]? = some (.cells (cs.setIfInBounds j u) t f) := by
 simp only [World.setCell, Array.getElem?_modify, if_true, h, Option.map_some]
 rfl
structure OwnAt (w0 w : World) (e : TypeId) (size : Nat) (v : Value) (n : Nat) (xs : List Value) : Prop where
 own : w.ownsRow 0 e size v n xs
 new : NewV w0 v
 frm : Frm NoS w0 w
theorem OwnAt.nil {w0 w : World} (f : Frm NoS w0 w) (e : TypeId) (size : Nat) : OwnAt w0 w e size (.slice none 0 0) 0 [] :=
 ⟨World.ownsRow_nil w 0 e size, (fun k hk => by simp [Value.ownBlock] at hk), f⟩
theorem OwnAt.keep {w0 w w' : World} {e : TypeId} {size : Nat} {v : Value} {n : Nat} {xs : List Value} (h : OwnAt w0 w e size v n xs) (f : Frm NoS w w') : OwnAt w0 w' e size v n xs :=
 ⟨f.owns h.own (fun _ _ h => h), h.new, h.frm.then1 f⟩
theorem OwnAt.rd {w0 w : World} {e : TypeId} {size : Nat} {v : Value} {n : Nat} {xs : List Value} (h : OwnAt w0 w e size v n xs) : Rd w v n xs := Rd.own h.own
theorem OwnAt.shape {w0 w : World} {e : TypeId} {size : Nat} {v : Value} {n : Nat} {xs : List Value} (h : OwnAt w0 w e size v n xs) : ∃ a c, v = .slice a n c := by
 rcases h.own.2 with ⟨rfl, h0⟩ | ⟨g, cap, cur, rfl, _⟩
 · exact ⟨none, 0, by rw [h0]⟩
 · exact ⟨_, _, rfl⟩
theorem OwnAt.step {w0 w w' : World} {e e' : TypeId} {size size' : Nat} {v v' : Value} {n n' : Nat} {xs xs' : List Value} (h : OwnAt w0 w e size v n xs) (own : w'.ownsRow 0 e' size' v' n' xs') (fm : Frm (RowS v) w w') (fr : Fresh w v v') : OwnAt w0 w' e' size' v' n' xs' :=
 ⟨own, (fun k hk => by
  rcases fr k hk with h1 | h1
  · exact h.new k h1
  · have := h.frm.size; omega), h.frm.trans fm (fun i hi s => by have := h.new i s; omega)⟩
theorem OwnAt.row {w0 w : World} {e : TypeId} {size : Nat} {v : Value} {n : Nat} {xs : List Value} (h : OwnAt w0 w e size v n xs) (hn : 0 < n) :
 ∃ g c, v = .slice (some ⟨g, 0, none⟩) n c ∧ w0.heap.size ≤ g ∧ g < w.heap.size ∧ n ≤ c ∧ (∀ j u, xs[j]? = some u → w.cell? ⟨g, j, none⟩ = some u) ∧ (∀ j, w.frozen? ⟨g, j, none⟩ = false) ∧
  ∀ j u, OwnAt w0 (w.setCell ⟨g, j, none⟩ u) e size v n (xs.set j u) := by
 rcases h.own.2 with ⟨_, h0⟩ | ⟨g, cap, cur, rfl, hb, hg, hnc, hcm, hcs, htake⟩
 · omega
 · have hlt : w0.heap.size ≤ g := h.new g rfl
   refine ⟨g, cap, rfl, hlt, lt_of_block hg, hnc, fun j u hu => ?_, fun j => free_at' hg j, fun j u => ⟨⟨?_, .inr ⟨g, cap, _, rfl, hb, set_at' hg j u, hnc, hcm, by simp [hcs], ?_⟩⟩, h.new, ?_⟩⟩
   · refine cell_at' hg j ?_
     rw [← htake, List.getElem?_take] at hu
     split at hu
     · simpa using hu
     · cases hu
   · rw [List.length_set]; exact h.own.1
   · rw [Array.toList_setIfInBounds, List.take_set, htake]
   · exact h.frm.set1 (.inr hlt)
section
variable {P : Program}
theorem wpList_appO {ops : Array Oper} {rest : List Oper} {o : Oper} {a : Act} {Q : Exit → Act → World → Prop} (w0 w : World) (news : List Value) (hgd : o.guard = none) (s x : Operand) (t : TypeId)
 (ho : o.op = .call { callee := .builtin .append, args := #[s, x], argTypes := #[t, t] })
 (e : TypeId) (i : TypeInfo) (z : Value) (size bytes : Nat) (ht : P.underlying t = some (.slice e)) (hi : P.info? e = some i) (hz : i.zero = some z)
 (hsize : i.size = size) (hby : i.bytes = bytes) (hzs : z.cells.size = size) (hsz : 0 < size)
 (v : Value) (n : Nat) (xs : List Value) (hown : OwnAt w0 w e size v n xs) (m c : Nat) (hv : a.eval s = v) (hx : a.eval x = .slice (some ⟨w.heap.size, 0, none⟩) m c)
 (hnl : news.length = m * size) (h1 : ∀ u ∈ news, u.oneCell' = true) (h63 : n + m ≤ maxLen) (hbytes : (n + m) * bytes ≤ 140737488355328)
 (h : ∀ ad c w', OwnAt w0 w' e size (.slice ad (n + m) c) (n + m) (xs ++ news) → wpList P ops Q rest (a.put o.dst (.slice ad (n + m) c)) w') :
 wpList P ops Q (o :: rest) a (w.alloc (.cells news.toArray e)) :=
 wpList_app1 w news hgd s x t ho e i z size bytes ht hi hz hsize hby hzs hsz v n xs hown.own m c hv hx hnl h1 h63 hbytes fun ad c' w' g1 g2 g3 => h ad c' w' (hown.step g1 g2 g3)
theorem wpList_appR {ops : Array Oper} {rest : List Oper} {o : Oper} {a : Act} {Q : Exit → Act → World → Prop} (w0 w : World) (news : List Value) (hgd : o.guard = none) (s x : Operand) (t tx : TypeId)
 (ho : o.op = .call { callee := .builtin .append, args := #[s, x], argTypes := #[t, tx] })
 (e e' : TypeId) (i : TypeInfo) (z : Value) (size bytes : Nat) (ht : P.underlying t = some (.slice e)) (htx : P.underlying tx = some (.slice e')) (hi : P.info? e = some i) (hz : i.zero = some z)
 (hsize : i.size = size) (hby : i.bytes = bytes) (hzs : z.cells.size = size) (hsz : 0 < size)
 (v : Value) (n : Nat) (xs : List Value) (hown : OwnAt w0 w e size v n xs) (xv : Value) (m : Nat) (hv : a.eval s = v) (hx : a.eval x = xv) (hr : Rd w xv m news)
 (hnl : news.length = m * size) (h1 : ∀ u ∈ news, u.oneCell' = true) (h63 : n + m ≤ maxLen) (hbytes : (n + m) * bytes ≤ 140737488355328)
 (h : ∀ ad c w', OwnAt w0 w' e size (.slice ad (n + m) c) (n + m) (xs ++ news) → wpList P ops Q rest (a.put o.dst (.slice ad (n + m) c)) w') :
 wpList P ops Q (o :: rest) a w :=
 wpList_app w hgd s x t tx ho e i z size bytes ht hi hz hsize hby hzs hsz v n xs hv hown.own xv m news hx (hr.src htx hnl h1) h63 hbytes fun ad c' w' g1 g2 g3 _ => h ad c' w' (hown.step g1 g2 g3)
theorem step_appO {ops : Array Oper} {o : Oper} {a : Act} (w0 w : World) {K : Act → World → Prop} {Q : Exit → Act → World → Prop} {E : Prop} (news : List Value) (hgd : o.guard = none) (s x : Operand) (t : TypeId)
 (ho : o.op = .call { callee := .builtin .append, args := #[s, x], argTypes := #[t, t] })
 (e : TypeId) (i : TypeInfo) (z : Value) (size bytes : Nat) (ht : P.underlying t = some (.slice e)) (hi : P.info? e = some i) (hz : i.zero = some z)
 (hsize : i.size = size) (hby : i.bytes = bytes) (hzs : z.cells.size = size) (hsz : 0 < size)
 (v : Value) (n : Nat) (xs : List Value) (hown : OwnAt w0 w e size v n xs) (m c : Nat) (hv : a.eval s = v) (hx : a.eval x = .slice (some ⟨w.heap.size, 0, none⟩) m c)
 (hnl : news.length = m * size) (h1 : ∀ u ∈ news, u.oneCell' = true) (h63 : n + m ≤ maxLen) (hbytes : (n + m) * bytes ≤ 140737488355328)
 (h : ∀ ad c w', OwnAt w0 w' e size (.slice ad (n + m) c) (n + m) (xs ++ news) → K (a.put o.dst (.slice ad (n + m) c)) w') :
 if Region.wanted o (yielded ops a.tmps) = true then Oper.wp P o a (w.alloc (.cells news.toArray e)) K Q else E := by
 have hw : Region.wanted o (yielded ops a.tmps) = true := by simp [Region.wanted, hgd]
 rw [if_pos hw]
 have hs : Src P size t (.slice (some ⟨w.heap.size, 0, none⟩) m c) m news (w.alloc (.cells news.toArray e)) :=
  Src.ofSlice _ ht ⟨w.heap.size, 0, none⟩ m c news hnl (fun j u hj => by
   have hadd : (⟨w.heap.size, 0, none⟩ : Addr).add j = ⟨w.heap.size, j, none⟩ := by unfold Addr.add; split <;> simp_all
   rw [hadd, cell_of_row (w.alloc (.cells news.toArray e)) w.heap.size j news.toArray e (0, 0) (heap_alloc_new w _)]
   simpa using hj) h1
 obtain ⟨v', w', hr, h2, h3, h4, ⟨ad, c', rfl⟩, h6⟩ := run_app (P := P) (w.alloc (.cells news.toArray e)) t t o.type e i z size bytes ht hi hz hsize hby hzs hsz v n xs (hown.own.alloc _) _ m news hs h63 hbytes
 unfold Oper.wp execOp
 simp only [ho, resolve, invoke, builtin, Sem.run_bind, Sem.run_pure, Result.andThen_ok, List.map_toArray, List.map_cons, List.map_nil, hv, hx, hr]
 refine h ad c' w' (hown.step h2 ((Frm.alloc (RowS v) w _).trans h3 (fun _ _ h => h)) fun k hk => ?_)
 rcases h4 k hk with h | h
 · exact .inl h
 · refine .inr ?_
   simp at h
   omega
end
theorem info_run : (Tryz.prog.info? 193).map (fun i => (i.zero, i.size, i.bytes)) = some (some (.agg #[.int .i64 0, .int .i64 0]), 2, 16) := by kernel_rfl
theorem info_i64 : (Tryz.prog.info? 2).map (fun i => (i.zero, i.size, i.bytes)) = some (some (.int .i64 0), 1, 8) := by kernel_rfl
theorem endsL_take_succ {l : RunL} {k : Nat} (hk : k < l.length) : endsL (l.take (k + 1)) = endsL (l.take k) ++ [(l.getD k (0, 0)).1, (l.getD k (0, 0)).2 + 1] := by
 rw [take_succ (0, 0) hk]; simp [endsL]
theorem endsL_length (l : RunL) : (endsL l).length = l.length * 2 := by
 induction l with
 | nil => rfl
 | cons r l ih =>
  have : endsL (r :: l) = [r.1, r.2 + 1] ++ endsL l := rfl
  rw [this, List.length_append, ih]; simp; omega
theorem r6ends_any (w : World) (v : Value) (l : RunL) (hv : RunAt w v l) (hr : RightR l) (hl : l.length ≤ 100000) :
 Calls Tryz.prog 152 #[v] w fun e w' => ∃ v', e = .returned v' ∧ OwnAt w w' 2 1 v' (endsL l).length (inV (endsL l)) := by
 obtain ⟨i0, hi, hz0, hz1, hz2⟩ := info_parts info_i64
 rcases Rd.shape hv with ⟨ad, rfl, h0⟩ | ⟨b, off, c, rfl, hmax⟩
 · obtain rfl : l = [] := List.eq_nil_of_length_eq_zero h0
   clear hv hr
   go_enter Tryz.func152, Tryz.ntmps152
   go_wp2
   go_loop [3, 7] (fun v i => v = .slice none 0 0 ∧ i = .int .i64 0) (fun _ _ => 0)
   case atStart => exact ⟨rfl, rfl⟩
   case round =>
    obtain ⟨rfl, rfl⟩ := hrel
    go_wp2
    go_ret
    exact ⟨_, rfl, OwnAt.nil (Frm.refl _ _) _ _⟩
 · have HH := Lib.hid hv; clear hv
   have HR := Lib.hid hr; clear hr
   generalize hn : l.length = n at *
   have HN := Lib.hid hn; clear hn
   go_enter Tryz.func152, Tryz.ntmps152
   go_wp2
   go_loopw [3, 7] (fun v i ww => ∃ (k : Nat), k ≤ n ∧ i = .int .i64 k ∧ OwnAt w ww 2 1 v (k * 2) (inV (endsL (l.take k)))) (fun _ i _ => n - (intOf i).toNat)
   case atStart => exact ⟨0, Nat.zero_le _, rfl, OwnAt.nil (Frm.refl _ _) _ _⟩
   case round =>
    obtain ⟨k, hk, rfl, ho⟩ := hrel
    obtain ⟨av, cv, rfl⟩ := ho.shape
    have HO := Lib.hid ho; clear ho
    by_cases hlt : k < n
    · obtain ⟨p1, p2⟩ := run_at HH.out HN.out.symm k (by rw [HN.out]; exact hlt)
      have q1 := HO.out.frm.cell' p1 id
      have q2 := HO.out.frm.cell' p2 id
      have hbl := World.block_lt_of_cell? _ _ q1
      have hbl : b < wr.heap.size := hbl
      have hfit : 1 ≤ (l.getD k (0, 0)).1 ∧ (l.getD k (0, 0)).1 ≤ (l.getD k (0, 0)).2 ∧ (l.getD k (0, 0)).2 ≤ 1099511627776 := by
       have hm := getD_mem (0, 0) (show k < l.length by rw [HN.out]; exact hlt)
       have := runsFrom_ge HR.out.1 _ hm
       have := HR.out.2 _ hm
       omega
      have HE := Lib.hid (endsL_take_succ (l := l) (k := k) (by rw [HN.out]; exact hlt))
      generalize l.getD k (0, 0) = r at *
      have P1 := Lib.hid p1; clear p1
      have P2 := Lib.hid p2; clear p2
      have hwr : IntKind.i64.wrap (r.2 + 1) = r.2 + 1 := by simp [IntKind.wrap, IntKind.bits, IntKind.signed]; omega
      go_wp2_with fail
      go_region_held3 (fun w' => w'.cell? ⟨b, off + k * 2, none⟩ = some (.int .i64 r.1) ∧ w'.cell? ⟨b, off + k * 2 + 1, none⟩ = some (.int .i64 r.2))
       (first | exact ⟨q1, q2⟩ | exact ⟨(Frm.alloc1 (Frm.drew NoS _)).cell' q1 id, (Frm.alloc1 (Frm.drew NoS _)).cell' q2 id⟩ | exact ⟨own2.frm.cell' P1.out id, own2.frm.cell' P2.out id⟩)
       (first | (refine step_appO w wr.drew [.int .i64 r.1, .int .i64 (r.2 + 1)] rfl (.tmp 10) (.tmp 22) 199 rfl 2 i0 _ 1 8 Tryz.underlying199 hi hz0 hz1 hz2 (by decide) (by decide) (.slice av (k * 2) cv) (k * 2) _ (HO.out.keep (Frm.drew _ _)) 2 2 (by simp [Act.eval]) (by simp [Act.eval]) rfl (by simp [Value.oneCell']) (by simp only [maxLen]; omega) (by omega) ?_; intro ad cc w2 own2))
      have OW := Lib.hid own2; clear own2
      go_wp2
      go_roundw
      case rel =>
       refine ⟨k + 1, by omega, by go_num, ?_⟩
       rw [HE.out, inV_append, show (k + 1) * 2 = k * 2 + 2 by omega]
       exact OW.out
      case measure => simp [intOf]; omega
    · obtain rfl : k = n := by omega
      go_wp2
      go_ret
      rw [List.take_of_length_le (by rw [HN.out]; exact Nat.le_refl _)] at HO
      refine ⟨_, rfl, ?_⟩
      rw [endsL_length, HN.out]
      exact HO.out
def aheadV (l : List Int) (x o : Value) : Nat :=
 match o with
 | .bool true => ahead l (some (intOf x))
 | _ => 0
theorem wrap_nat {n : Nat} (h : n + 1 ≤ 100000) : wrap64 (n : Int) = n := by unfold wrap64; omega
theorem ahead_le (l : List Int) (x : Option Int) : ahead l x ≤ l.length := by
 cases x with
 | none => exact Nat.zero_le _
 | some m => exact List.length_filter_le _ _
theorem pushL_length (out : RunL) (a hi : Int) : (pushL out a hi).length ≤ out.length + 1 := by
 rcases List.eq_nil_or_concat out with rfl | ⟨l, r, rfl⟩
 · simp [pushL]
 · rw [List.concat_eq_append, pushL_snoc]
   split <;> simp
theorem ruC_set_last (l : RunL) (r : Int × Int) (hi : Int) : (ruC (l ++ [r])).set (l.length * 2 + 1) (.int .i64 hi) = ruC (l ++ [(r.1, hi)]) := by
 rw [ruC_append, ruC_append, List.set_append_right _ _ (by rw [ruC_length]; omega), ruC_length, show l.length * 2 + 1 - l.length * 2 = 1 by omega]
 rfl
theorem ruC_last (l : RunL) (r : Int × Int) : (ruC (l ++ [r]))[l.length * 2 + 1]? = some (.int .i64 r.2) := by
 rw [ruC_append, List.getElem?_append_right (by rw [ruC_length]; omega), ruC_length, show l.length * 2 + 1 - l.length * 2 = 1 by omega]
 rfl
def OfRel (w : World) (l : List Int) (v x o : Value) (ww : World) : Prop :=
 ∃ (q : Option Int) (out : RunL), OwnAt w ww 193 2 v out.length (ruC out) ∧ OfInv l out q ∧ out.length + ahead l q ≤ l.length ∧ x = .int .i64 (q.getD 0) ∧ o = .bool q.isSome
theorem r6Of_any (w : World) (v : Value) (l : List Int) (hv : NumAt w v l) (hl : l.length ≤ 100000) (hb : ∀ x ∈ l, 1 ≤ x ∧ x ≤ 1099511627777) :
 Calls Tryz.prog 156 #[v] w fun e w' => ∃ v' out, e = .returned v' ∧ OwnAt w w' 193 2 v' out.length (ruC out) ∧ OfInv l out none ∧ out.length ≤ l.length := by
 obtain ⟨i0, hi, hz0, hz1, hz2⟩ := info_parts info_run
 obtain ⟨a, c, rfl⟩ := hv.sl
 have HB := Lib.hid hb; clear hb
 have HN := Lib.hid (fun w' x h => r6next_any w' _ l x (Rd.keep0 hv h)); clear hv
 go_enter Tryz.func156, Tryz.ntmps156
 go_wp2_with (go_at_call 153; refine (HN.out w 0 (Frm.refl _ _)).mono ?_; rintro e w' ⟨rfl, hw⟩; rw [hw]; clear hw w')
 go_loopw [3, 4, 5] (fun v x o ww => OfRel w l v x o ww) (fun _ x o _ => aheadV l x o)
 case atStart => exact ⟨nextL l 0, [], OwnAt.nil (Frm.refl _ _) _ _, ofInv_init l, by have := ahead_le l (nextL l 0); simpa using this, rfl, rfl⟩
 case round =>
  obtain ⟨q, out, ho, hq, hlen, rfl, rfl⟩ := hrel
  have HQ := Lib.hid hq; clear hq
  have HO := Lib.hid ho; clear ho
  cases q with
  | none =>
   have HLEN := Lib.hid hlen; clear hlen
   obtain ⟨av, cv, rfl⟩ := HO.out.shape
   go_wp2
   go_ret
   exact ⟨_, out, rfl, HO.out, HQ.out, Nat.le_trans (Nat.le_add_right _ _) HLEN.out⟩
  | some m =>
   obtain ⟨m1, m2, m3, m4⟩ := HQ.out.some_ m rfl
   obtain ⟨b1, b2⟩ := HB.out m m2
   have hah := ahead_lt m2
   have hstep := ofInv_step HQ.out
   have hpl := pushL_length out m m
   have hah2 := ahead_le l (some m)
   rcases List.eq_nil_or_concat out with rfl | ⟨lo, r, rfl⟩
   · have HST := Lib.hid hstep
     have HLEN := Lib.hid hlen
     have HAH := Lib.hid hah
     clear hstep hpl hah m2 m3 m4
     obtain ⟨av, cv, rfl⟩ := HO.out.shape
     go_wp2_with (first
      | (go_at_call 153; refine (HN.out _ m OW.out.frm).mono ?_; rintro e w' ⟨rfl, hw⟩; rw [hw]; clear hw w')
      | (at_builtin; refine wpList_appO w _ [.int .i64 m, .int .i64 m] rfl (.tmp 34) (.tmp 38) 136 rfl 193 i0 _ 2 16 Tryz.underlying136 hi hz0 hz1 hz2 (by decide) (by decide) _ _ _ HO.out 1 1 rfl rfl rfl (by simp [Value.oneCell']) (by simp [maxLen]) (by simp) ?_; intro ad cc w2 own2; have OW := Lib.hid own2; clear own2))
     go_roundw
     case rel =>
      refine ⟨nextL l m, [(m, m)], OW.out, HST.out, ?_, rfl, rfl⟩
      have := HLEN.out
      have := HAH.out
      simp at *
      omega
     case measure =>
      have := HAH.out
      cases hx : nextL l m with
      | none => rw [hx] at this; exact this
      | some t => rw [hx] at this; exact this
   · rw [List.concat_eq_append] at *
     rw [pushL_snoc] at hstep hpl
     have hln : (lo ++ [r]).length = lo.length + 1 := by simp
     have ho2 := HO.out
     rw [hln] at ho2 hlen hpl
     clear HO hln
     obtain ⟨g, c2, rfl, hg0, hg, hc2, hcell, hfro, hset⟩ := ho2.row (by simp)
     have cl := hcell _ _ (ruC_last lo r)
     have fl := hfro (lo.length * 2 + 1)
     have hs := hset (lo.length * 2 + 1) (.int .i64 m)
     rw [ruC_set_last] at hs
     have HO := Lib.hid ho2; clear ho2
     have hr2 := m3 r (by simp)
     have hr1 : 1 ≤ r.2 := by
      have := runsFrom_ge HQ.out.from_ r (by simp)
      omega
     generalize hL : lo.length = L at *
     have HLN := Lib.hid hL; clear hL
     have HS := Lib.hid hs; clear hs
     have HPL := Lib.hid hpl; clear hpl
     have HLEN := Lib.hid hlen
     have HAH := Lib.hid hah; clear hah
     clear m3 m4 hset hcell hfro m2
     have hL5 : L + 1 ≤ 100000 := Nat.le_trans (Nat.le_trans (Nat.le_add_right _ _) hlen) hl
     have hwm : wrap64 (L : Int) = L := wrap_nat hL5
     clear hlen hah2 hr1 hr2
     by_cases he : r.2 = m - 1
     · rw [if_pos he] at hstep HPL
       have HST := Lib.hid hstep; clear hstep
       have he' : ((r.2 : Int) == m - 1) = true := by simp [he]
       clear he
       go_wp2_with (go_at_call 153; refine (HN.out _ m HS.out.frm).mono ?_; rintro e w' ⟨rfl, hw⟩; rw [hw]; clear hw w')
       go_roundw
       case rel =>
        refine ⟨nextL l m, lo ++ [(r.1, m)], by rw [List.length_append, HLN.out]; exact HS.out, HST.out, ?_, rfl, rfl⟩
        have := HLEN.out
        have := HAH.out
        have := HLN.out
        simp at *
        omega
       case measure =>
        have := HAH.out
        cases hx : nextL l m with
        | none => rw [hx] at this; exact this
        | some t => rw [hx] at this; exact this
     · rw [if_neg he] at hstep HPL
       have HST := Lib.hid hstep; clear hstep
       have he' : ((r.2 : Int) == m - 1) = false := by simpa using he
       clear he
       go_wp2_with (first
        | (go_at_call 153; refine (HN.out _ m OW.out.frm).mono ?_; rintro e w' ⟨rfl, hw⟩; rw [hw]; clear hw w')
        | (at_builtin; refine wpList_appO w _ [.int .i64 m, .int .i64 m] rfl (.tmp 34) (.tmp 38) 136 rfl 193 i0 _ 2 16 Tryz.underlying136 hi hz0 hz1 hz2 (by decide) (by decide) _ _ _ HO.out 1 1 rfl rfl rfl (by simp [Value.oneCell']) (by simp only [maxLen]; omega) (by omega) ?_; intro ad cc w2 own2; have OW := Lib.hid own2; clear own2))
       go_roundw
       case rel =>
        refine ⟨nextL l m, lo ++ [r] ++ [(m, m)], by rw [List.length_append, List.length_append, HLN.out, ruC_append]; exact OW.out, HST.out, ?_, rfl, rfl⟩
        have := HLEN.out
        have := HAH.out
        have := HLN.out
        simp at *
        omega
       case measure =>
        have := HAH.out
        cases hx : nextL l m with
        | none => rw [hx] at this; exact this
        | some t => rw [hx] at this; exact this
theorem OwnAt.base {w0 w1 w : World} {e : TypeId} {size : Nat} {v : Value} {n : Nat} {xs : List Value} (h : OwnAt w1 w e size v n xs) (f : Frm NoS w0 w1) : OwnAt w0 w e size v n xs :=
 ⟨h.own, (fun k hk => Nat.le_trans f.size (h.new k hk)), f.then1 h.frm⟩
def R6ByC (how : Int) : Prop := ∀ (w : World) (va vb : Value) (a b : RunL) (_ : RunAt w va a) (_ : RunAt w vb b) (_ : RightR a) (_ : RightR b) (_ : a.length ≤ 10000) (_ : b.length ≤ 10000),
 Calls Tryz.prog 122 #[va, vb, .int .i64 how] w fun e w' => ∃ v' out, e = .returned v' ∧ OwnAt w w' 193 2 v' out.length (ruC out) ∧ ByInv a b how out none ∧ out.length ≤ 40000
theorem wrap_nat4 {n : Nat} (h : n + 1 ≤ 1000000) : wrap64 (n : Int) = n := by unfold wrap64; omega
theorem wrap_m1 {m : Int} (h1 : 1 ≤ m) (h2 : m ≤ 1099511627777) : wrap64 (m - 1) = m - 1 := by unfold wrap64; omega
theorem endsL_bd {l : RunL} (h : RightR l) : ∀ x ∈ endsL l, 1 ≤ x ∧ x ≤ 1099511627777 := by
 intro x hx
 obtain ⟨r, hr, h1⟩ := endsL_mem.1 hx
 have := runsFrom_ge h.1 r hr
 have := h.2 r hr
 omega
theorem r6By_minus : R6ByC 2 := by
 intro w va vb a b ha hb ra rb la lb
 obtain ⟨i0, hi, hz0, hz1, hz2⟩ := info_parts info_run
 obtain ⟨j0, hj, hy0, hy1, hy2⟩ := info_parts info_i64
 obtain ⟨aA, cA, rfl⟩ := ha.sl
 obtain ⟨aB, cB, rfl⟩ := hb.sl
 have hl : (endsL a ++ endsL b).length ≤ 40000 := by rw [List.length_append, endsL_length, endsL_length]; omega
 have hbd : ∀ x ∈ (endsL a ++ endsL b), 1 ≤ x ∧ x ≤ 1099511627777 := fun x hx => (List.mem_append.1 hx).elim (endsL_bd ra x) (endsL_bd rb x)
 have HBD := Lib.hid hbd; clear hbd
 have HINI := Lib.hid (byInv_init 2 ra.1 rb.1)
 have HEA := Lib.hid (r6ends_any w _ a ha ra (by omega))
 have HEB := Lib.hid (fun w' h => r6ends_any w' _ b (Rd.keep0 hb h) rb (by omega))
 have HA := Lib.hid (fun w' x h => r6Has_any w' _ a x (Rd.keep0 ha h))
 have HB := Lib.hid (fun w' x h => r6Has_any w' _ b x (Rd.keep0 hb h))
 have ela : (endsL a).length ≤ 20000 := by rw [endsL_length]; omega
 have elb : (endsL b).length ≤ 20000 := by rw [endsL_length]; omega
 clear ha hb la lb
 go_enter Tryz.func122, Tryz.ntmps122
 go_wp2_with (first
  | (go_at_call_of 152 aA; refine HEA.out.mono ?_; rintro e w1 ⟨v1, rfl, ho1⟩; obtain ⟨a1, c1, rfl⟩ := ho1.shape; have HO1 := Lib.hid ho1; clear ho1)
  | (go_at_call_of 152 aB; refine (HEB.out w1 HO1.out.frm).mono ?_; rintro e w2 ⟨v2, rfl, ho2⟩; obtain ⟨a2, c2, rfl⟩ := ho2.shape; have HO2 := Lib.hid ho2; clear ho2)
  | (at_builtin; refine wpList_appR w _ _ rfl (.tmp 17) (.tmp 19) 199 199 rfl 2 2 j0 _ 1 8 Tryz.underlying199 Tryz.underlying199 hj hy0 hy1 hy2 (by decide) (by decide) _ _ _ (HO1.out.keep HO2.out.frm) _ (endsL b).length rfl rfl HO2.out.rd (by simp) (inV_oneCell _) (by simp only [maxLen]; omega) (by omega) ?_; intro a3 c3 w3 own3; have HO3 := Lib.hid own3; clear own3))
 have HW3 := Lib.hid HO3.out.frm
 have HNX := Lib.hid (fun w' x (h : Frm NoS w3 w') => r6next_any w' _ (endsL a ++ endsL b) x (by have := (HO3.out.keep h).rd; rw [← inV_append, ← List.length_append] at this; exact this))
 clear HO1 HO2 HO3 HEA HEB
 rw [← List.length_append]
 have elp : (endsL a ++ endsL b).length = (endsL a).length + (endsL b).length := List.length_append
 generalize hP : (endsL a ++ endsL b) = P at *
 have HP := Lib.hid hP; clear hP
 clear ela elb elp
 refine (HNX.out w3 0 (Frm.refl _ _)).mono ?_
 rintro e w' ⟨rfl, hw⟩
 rw [hw]
 clear hw w'
 go_wp2
 go_loopw [8, 9, 10] (fun v x o ww => ∃ (q : Option Int) (out : RunL), OwnAt w3 ww 193 2 v out.length (ruC out) ∧ ByInv a b 2 out q ∧ out.length + ahead P q ≤ P.length ∧ x = .int .i64 (q.getD 0) ∧ o = .bool q.isSome) (fun _ x o _ => aheadV P x o)
 case atStart => exact ⟨nextL P 0, [], OwnAt.nil (Frm.refl _ _) _ _, HINI.out, by have := ahead_le P (nextL P 0); simpa using this, rfl, rfl⟩
 case round =>
  obtain ⟨q, out, ho, hq, hlen, rfl, rfl⟩ := hrel
  have HQ := Lib.hid hq; clear hq
  have HO := Lib.hid ho; clear ho
  cases q with
  | none =>
   have HLEN := Lib.hid hlen; clear hlen
   have HL := Lib.hid hl; clear hl
   obtain ⟨av, cv, rfl⟩ := HO.out.shape
   go_wp2
   go_ret
   exact ⟨_, out, rfl, HO.out.base HW3.out, HQ.out, Nat.le_trans (Nat.le_trans (Nat.le_add_right _ _) HLEN.out) HL.out⟩
  | some m =>
   obtain ⟨m1, m2, m3, m4⟩ := HQ.out.some_ m rfl
   rw [HP.out] at m2
   obtain ⟨b1, b2⟩ := HBD.out m m2
   have hah := ahead_lt m2
   have HAH := Lib.hid hah; clear hah
   have hole : out.length + 1 ≤ 40000 := by
    have : 0 < ahead P (some m) := List.length_pos_of_mem (List.mem_filter.2 ⟨m2, by simp⟩)
    omega
   have HLEN := Lib.hid hlen
   have HM3 := Lib.hid m3; clear m3
   clear m4 m1 hlen m2
   cases hp : tf (InR a m) with
   | false =>
    cases hq : tf (InR b m) with
    | false =>
     have hin : ¬ ByIn 2 (InR a m) (InR b m) := by
      have h1 := tf_not.1 hp
      have h2 := tf_not.1 hq
      unfold ByIn
      simp [h1, h2]
     have HHA := Lib.hid (fun w' h => HA.out w' m h)
     have HHB := Lib.hid (fun w' h => HB.out w' m h)
     rw [hp] at HHA
     rw [hq] at HHB
     clear hp hq
     have HST := Lib.hid (HP.out ▸ byInv_out HQ.out hin)
     have HNM := Lib.hid (fun w' h => HNX.out w' m h)
     have hlm : ahead P (nextL P m) < ahead P (some m) := HAH.out
     generalize hnx : nextL P m = nx at *
     have HL2 := Lib.hid hlm; clear hlm
     clear hin
     obtain ⟨av, cv, rfl⟩ := HO.out.shape
     go_wp2_with (first
      | (go_at_call 153; refine (HNM.out _ HO.out.frm).mono ?_; rintro e w' ⟨rfl, hw⟩; rw [hw]; clear hw w')
      | (go_at_call_of 154 aA; refine (HHA.out _ (HW3.out.then1 HO.out.frm)).mono ?_; rintro e w' ⟨rfl, hw⟩; rw [hw]; clear hw w')
      | (go_at_call_of 154 aB; refine (HHB.out _ (HW3.out.then1 HO.out.frm)).mono ?_; rintro e w' ⟨rfl, hw⟩; rw [hw]; clear hw w'))
     go_roundw
     case rel =>
      refine ⟨nx, out, HO.out, HST.out, ?_, rfl, rfl⟩
      have := HLEN.out
      have := HL2.out
      omega
     case measure =>
      have := HL2.out
      cases nx with
      | none => exact this
      | some t => exact this
    | true =>
     have hin : ¬ ByIn 2 (InR a m) (InR b m) := by
      have h1 := tf_not.1 hp
      have h2 := tf_iff.1 hq
      unfold ByIn
      simp [h1, h2]
     have HHA := Lib.hid (fun w' h => HA.out w' m h)
     have HHB := Lib.hid (fun w' h => HB.out w' m h)
     rw [hp] at HHA
     rw [hq] at HHB
     clear hp hq
     have HST := Lib.hid (HP.out ▸ byInv_out HQ.out hin)
     have HNM := Lib.hid (fun w' h => HNX.out w' m h)
     have hlm : ahead P (nextL P m) < ahead P (some m) := HAH.out
     generalize hnx : nextL P m = nx at *
     have HL2 := Lib.hid hlm; clear hlm
     clear hin
     obtain ⟨av, cv, rfl⟩ := HO.out.shape
     go_wp2_with (first
      | (go_at_call 153; refine (HNM.out _ HO.out.frm).mono ?_; rintro e w' ⟨rfl, hw⟩; rw [hw]; clear hw w')
      | (go_at_call_of 154 aA; refine (HHA.out _ (HW3.out.then1 HO.out.frm)).mono ?_; rintro e w' ⟨rfl, hw⟩; rw [hw]; clear hw w')
      | (go_at_call_of 154 aB; refine (HHB.out _ (HW3.out.then1 HO.out.frm)).mono ?_; rintro e w' ⟨rfl, hw⟩; rw [hw]; clear hw w'))
     go_roundw
     case rel =>
      refine ⟨nx, out, HO.out, HST.out, ?_, rfl, rfl⟩
      have := HLEN.out
      have := HL2.out
      omega
     case measure =>
      have := HL2.out
      cases nx with
      | none => exact this
      | some t => exact this
   | true =>
    cases hq : tf (InR b m) with
    | false =>
     have hin : ByIn 2 (InR a m) (InR b m) := by
      have h1 := tf_iff.1 hp
      have h2 := tf_not.1 hq
      unfold ByIn
      simp [h1, h2]
     have HHA := Lib.hid (fun w' h => HA.out w' m h)
     have HHB := Lib.hid (fun w' h => HB.out w' m h)
     rw [hp] at HHA
     rw [hq] at HHB
     clear hp hq
     obtain ⟨t, ht⟩ := byInv_some hin
     have hst := byInv_in HQ.out hin ht
     rw [HP.out] at ht
     have HST := Lib.hid hst; clear hst
     have hlm : ahead P (some t) < ahead P (some m) := ht ▸ HAH.out
     have HL2 := Lib.hid hlm; clear hlm
     obtain ⟨t1, t2⟩ := HBD.out t (nextL_some ht).1
     have HNM := Lib.hid (fun w' h => HNX.out w' m h)
     rw [ht] at HNM
     clear hin ht
     have HPL := Lib.hid (pushL_length out m (t - 1))
     rcases List.eq_nil_or_concat out with rfl | ⟨lo, r, rfl⟩
     · rw [pushL_nil] at HST HPL
       obtain ⟨av, cv, rfl⟩ := HO.out.shape
       go_wp2_with (first
        | (go_at_call 153; refine (HNM.out _ HO.out.frm).mono ?_; rintro e w' ⟨rfl, hw⟩; rw [hw]; clear hw w') | (go_at_call_of 154 aA; refine (HHA.out _ (HW3.out.then1 HO.out.frm)).mono ?_; rintro e w' ⟨rfl, hw⟩; rw [hw]; clear hw w') | (go_at_call_of 154 aB; refine (HHB.out _ (HW3.out.then1 HO.out.frm)).mono ?_; rintro e w' ⟨rfl, hw⟩; rw [hw]; clear hw w')
        | (at_builtin; refine wpList_appO w3 _ [.int .i64 m, .int .i64 (t - 1)] rfl (.tmp 83) (.tmp 88) 136 rfl 193 i0 _ 2 16 Tryz.underlying136 hi hz0 hz1 hz2 (by decide) (by decide) _ _ _ HO.out 1 1 rfl rfl rfl (by simp [Value.oneCell']) (by simp [maxLen]) (by simp) ?_; intro ad cc w2 own2; have OW := Lib.hid own2; clear own2))
       go_roundw
       case rel => exact ⟨some t, [(m, t - 1)], OW.out, HST.out, by have := HLEN.out; have := HL2.out; simp at *; omega, rfl, rfl⟩
       case measure => exact HL2.out
     · rw [List.concat_eq_append] at *
       rw [pushL_snoc] at HST HPL
       have hln : (lo ++ [r]).length = lo.length + 1 := by simp
       have ho2 := HO.out
       have hlen := HLEN.out
       rw [hln] at ho2 hole hlen HPL
       clear HO HLEN
       have HLEN := Lib.hid hlen; clear hlen
       obtain ⟨g, c2, rfl, hg0, hg, hc2, hcell, hfro, hset⟩ := ho2.row (by simp)
       have cl := hcell _ _ (ruC_last lo r)
       have fl := hfro (lo.length * 2 + 1)
       have hs := hset (lo.length * 2 + 1) (.int .i64 (t - 1))
       rw [ruC_set_last] at hs
       have HO := Lib.hid ho2; clear ho2
       generalize hL : lo.length = L at *
       have HLN := Lib.hid hL; clear hL
       have HS := Lib.hid hs; clear hs
       clear hset hcell hfro hln
       have hwm : wrap64 (L : Int) = L := wrap_nat4 (Nat.le_of_succ_le (Nat.le_trans hole (by decide : 40000 ≤ 1000000)))
       have HOLE := Lib.hid hole; clear hole hc2
       by_cases he : r.2 = m - 1
       · rw [if_pos he] at HST HPL
         have he' : ((r.2 : Int) == m - 1) = true := by simp [he]
         have hw1 : wrap64 (m - 1) = m - 1 := wrap_m1 b1 b2
         have hw2 : wrap64 (t - 1) = t - 1 := wrap_m1 t1 t2
         clear he b1 b2 t1 t2
         go_wp2_with (first
          | (go_at_call 153; refine (HNM.out _ HO.out.frm).mono ?_; rintro e w' ⟨rfl, hw⟩; rw [hw]; clear hw w') | (go_at_call_of 154 aA; refine (HHA.out _ (HW3.out.then1 HO.out.frm)).mono ?_; rintro e w' ⟨rfl, hw⟩; rw [hw]; clear hw w') | (go_at_call_of 154 aB; refine (HHB.out _ (HW3.out.then1 HO.out.frm)).mono ?_; rintro e w' ⟨rfl, hw⟩; rw [hw]; clear hw w'))
         go_roundw
         case rel =>
          refine ⟨some t, lo ++ [(r.1, t - 1)], by rw [List.length_append, HLN.out]; exact HS.out, HST.out, ?_, rfl, rfl⟩
          have := HLEN.out
          have := HL2.out
          have := HLN.out
          rw [List.length_append]
          simp at *
          omega
         case measure => exact HL2.out
       · rw [if_neg he] at HST HPL
         have he' : ((r.2 : Int) == m - 1) = false := by simpa using he
         have hw1 : wrap64 (m - 1) = m - 1 := wrap_m1 b1 b2
         have hw2 : wrap64 (t - 1) = t - 1 := wrap_m1 t1 t2
         clear he b1 b2 t1 t2
         go_wp2_with (first
          | (go_at_call 153; refine (HNM.out _ HO.out.frm).mono ?_; rintro e w' ⟨rfl, hw⟩; rw [hw]; clear hw w') | (go_at_call_of 154 aA; refine (HHA.out _ (HW3.out.then1 HO.out.frm)).mono ?_; rintro e w' ⟨rfl, hw⟩; rw [hw]; clear hw w') | (go_at_call_of 154 aB; refine (HHB.out _ (HW3.out.then1 HO.out.frm)).mono ?_; rintro e w' ⟨rfl, hw⟩; rw [hw]; clear hw w')
          | (at_builtin; refine wpList_appO w3 _ [.int .i64 m, .int .i64 (t - 1)] rfl (.tmp 83) (.tmp 88) 136 rfl 193 i0 _ 2 16 Tryz.underlying136 hi hz0 hz1 hz2 (by decide) (by decide) _ _ _ HO.out 1 1 rfl rfl rfl (by simp [Value.oneCell']) (by have := HOLE.out; simp only [maxLen]; omega) (by have := HOLE.out; omega) ?_; intro ad cc w2 own2; have OW := Lib.hid own2; clear own2))
         go_roundw
         case rel =>
          refine ⟨some t, lo ++ [r] ++ [(m, t - 1)], by rw [List.length_append, List.length_append, HLN.out, ruC_append]; exact OW.out, HST.out, ?_, rfl, rfl⟩
          have := HLEN.out
          have := HL2.out
          have := HLN.out
          simp at *
          omega
         case measure => exact HL2.out
    | true =>
     have hin : ¬ ByIn 2 (InR a m) (InR b m) := by
      have h1 := tf_iff.1 hp
      have h2 := tf_iff.1 hq
      unfold ByIn
      simp [h1, h2]
     have HHA := Lib.hid (fun w' h => HA.out w' m h)
     have HHB := Lib.hid (fun w' h => HB.out w' m h)
     rw [hp] at HHA
     rw [hq] at HHB
     clear hp hq
     have HST := Lib.hid (HP.out ▸ byInv_out HQ.out hin)
     have HNM := Lib.hid (fun w' h => HNX.out w' m h)
     have hlm : ahead P (nextL P m) < ahead P (some m) := HAH.out
     generalize hnx : nextL P m = nx at *
     have HL2 := Lib.hid hlm; clear hlm
     clear hin
     obtain ⟨av, cv, rfl⟩ := HO.out.shape
     go_wp2_with (first
      | (go_at_call 153; refine (HNM.out _ HO.out.frm).mono ?_; rintro e w' ⟨rfl, hw⟩; rw [hw]; clear hw w')
      | (go_at_call_of 154 aA; refine (HHA.out _ (HW3.out.then1 HO.out.frm)).mono ?_; rintro e w' ⟨rfl, hw⟩; rw [hw]; clear hw w')
      | (go_at_call_of 154 aB; refine (HHB.out _ (HW3.out.then1 HO.out.frm)).mono ?_; rintro e w' ⟨rfl, hw⟩; rw [hw]; clear hw w'))
     go_roundw
     case rel =>
      refine ⟨nx, out, HO.out, HST.out, ?_, rfl, rfl⟩
      have := HLEN.out
      have := HL2.out
      omega
     case measure =>
      have := HL2.out
      cases nx with
      | none => exact this
      | some t => exact this
theorem info_span : (Tryz.prog.info? 122).map (fun i => (i.zero, i.size, i.bytes)) = some (some (.agg #[.int .i64 0, .int .i64 0, .int .i64 0]), 3, 24) := by kernel_rfl
theorem partL_take_succ {c : CtxL} {k : Nat} (d : Int) (hk : k < c.length) : partL (c.take (k + 1)) d = partL (c.take k) d ++ (if (c.getD k (0, 0, 0)).1 = d then [(c.getD k (0, 0, 0)).2] else []) := by
 rw [take_succ (0, 0, 0) hk, partL_append]
 congr 1
 split
 · rename_i h; subst h; rw [partL_cons_eq]; rfl
 · rename_i h; rw [partL_cons_ne _ _ h]; rfl
theorem partL_length_le (c : CtxL) (d : Int) : (partL c d).length ≤ c.length := by
 unfold partL; rw [List.length_map]; exact List.length_filter_le _ _
theorem r7Part_any (w : World) (v : Value) (c : CtxL) (d : Int) (hv : CtxAt w v c) (hl : c.length ≤ 100000) :
 Calls Tryz.prog 93 #[v, .int .i64 d] w fun e w' => ∃ v', e = .returned v' ∧ OwnAt w w' 193 2 v' (partL c d).length (ruC (partL c d)) := by
 obtain ⟨i0, hi, hz0, hz1, hz2⟩ := info_parts info_run
 rcases Rd.shape hv with ⟨ad, rfl, h0⟩ | ⟨b, off, cc0, rfl, hmax⟩
 · obtain rfl : c = [] := List.eq_nil_of_length_eq_zero h0
   clear hv
   go_enter Tryz.func93, Tryz.ntmps93
   go_wp2
   go_loop [5, 9] (fun v i => v = .slice none 0 0 ∧ i = .int .i64 0) (fun _ _ => 0)
   case atStart => exact ⟨rfl, rfl⟩
   case round =>
    obtain ⟨rfl, rfl⟩ := hrel
    go_wp2
    go_ret
    exact ⟨_, rfl, OwnAt.nil (Frm.refl _ _) _ _⟩
 · have HH := Lib.hid hv; clear hv
   generalize hn : c.length = n at *
   have HN := Lib.hid hn; clear hn
   have HLL := Lib.hid hl; clear hl
   go_enter Tryz.func93, Tryz.ntmps93
   go_wp2
   go_loopw [5, 9] (fun v i ww => ∃ (k m : Nat), k ≤ n ∧ m ≤ k ∧ i = .int .i64 k ∧ m = (partL (c.take k) d).length ∧ OwnAt w ww 193 2 v m (ruC (partL (c.take k) d))) (fun _ i _ => n - (intOf i).toNat)
   case atStart => exact ⟨0, 0, Nat.zero_le _, Nat.le_refl _, rfl, rfl, OwnAt.nil (Frm.refl _ _) _ _⟩
   case round =>
    obtain ⟨k, m, hk, hmk, rfl, hm, ho⟩ := hrel
    obtain ⟨av, cv, rfl⟩ := ho.shape
    have HO := Lib.hid ho; clear ho
    have HM := Lib.hid hm; clear hm
    have HMK := Lib.hid hmk; clear hmk
    by_cases hlt : k < n
    · obtain ⟨p0, p1, p2⟩ := spn_at HH.out HN.out.symm k (by rw [HN.out]; exact hlt)
      have q0 := HO.out.frm.cell' p0 id
      have q1 := HO.out.frm.cell' p1 id
      have q2 := HO.out.frm.cell' p2 id
      have hbl := World.block_lt_of_cell? _ _ q1
      have hbl : b < wr.heap.size := hbl
      have hE := partL_take_succ (c := c) (k := k) d (by rw [HN.out]; exact hlt)
      generalize c.getD k (0, 0, 0) = s at *
      have P1 := Lib.hid p1; clear p1
      have P2 := Lib.hid p2; clear p2
      clear p0
      by_cases he : s.1 = d
      · rw [if_pos he] at hE
        have he' : ((s.1 : Int) == d) = true := by simp [he]
        have HE := Lib.hid hE; clear hE
        clear he
        go_wp2_with fail
        go_region_held3 (fun w' => w'.cell? ⟨b, off + k * 3 + 1, none⟩ = some (.int .i64 s.2.1) ∧ w'.cell? ⟨b, off + k * 3 + 2, none⟩ = some (.int .i64 s.2.2))
         (first | exact ⟨q1, q2⟩ | exact ⟨(Frm.alloc1 (Frm.drew NoS _)).cell' q1 id, (Frm.alloc1 (Frm.drew NoS _)).cell' q2 id⟩ | exact ⟨own2.frm.cell' P1.out id, own2.frm.cell' P2.out id⟩)
         (first | (refine step_appO w wr.drew [.int .i64 s.2.1, .int .i64 s.2.2] rfl (.tmp 19) (.tmp 31) 136 rfl 193 i0 _ 2 16 Tryz.underlying136 hi hz0 hz1 hz2 (by decide) (by decide) (.slice av m cv) m _ (HO.out.keep (Frm.drew _ _)) 1 1 (by simp [Act.eval]) (by simp [Act.eval]) rfl (by simp [Value.oneCell']) (by have := HLL.out; have := HMK.out; simp only [maxLen]; omega) (by have := HLL.out; have := HMK.out; omega) ?_; intro ad cc w2 own2))
        have OW := Lib.hid own2; clear own2
        go_wp2
        go_roundw
        case rel =>
         refine ⟨k + 1, m + 1, by omega, by have := HMK.out; omega, by go_num, by rw [HE.out, List.length_append, ← HM.out]; rfl, ?_⟩
         rw [HE.out, ruC_append]
         exact OW.out
        case measure => simp [intOf]; omega
      · rw [if_neg he, List.append_nil] at hE
        have he' : ((s.1 : Int) == d) = false := by simpa using he
        have HE := Lib.hid hE; clear hE
        clear he
        go_wp2
        go_roundw
        case rel => exact ⟨k + 1, m, by omega, by have := HMK.out; omega, by go_num, by rw [HE.out]; exact HM.out, by rw [HE.out]; exact HO.out⟩
        case measure => simp [intOf]; omega
    · obtain rfl : k = n := by omega
      go_wp2
      go_ret
      rw [List.take_of_length_le (by rw [HN.out]; exact Nat.le_refl _)] at HO HM
      exact ⟨_, rfl, by rw [← HM.out]; exact HO.out⟩
theorem spansL_take_succ {l : RunL} {k : Nat} (d : Int) (hk : k < l.length) : spansL d (l.take (k + 1)) = spansL d (l.take k) ++ [(d, (l.getD k (0, 0)).1, (l.getD k (0, 0)).2)] := by
 rw [take_succ (0, 0) hk]; simp [spansL]
theorem r7spans_any (w : World) (v : Value) (l : RunL) (d : Int) (hv : RunAt w v l) (hl : l.length ≤ 100000) :
 Calls Tryz.prog 121 #[.int .i64 d, v] w fun e w' => ∃ v', e = .returned v' ∧ OwnAt w w' 122 3 v' l.length (spC (spansL d l)) := by
 obtain ⟨i0, hi, hz0, hz1, hz2⟩ := info_parts info_span
 rcases Rd.shape hv with ⟨ad, rfl, h0⟩ | ⟨b, off, cc0, rfl, hmax⟩
 · obtain rfl : l = [] := List.eq_nil_of_length_eq_zero h0
   clear hv
   go_enter Tryz.func121, Tryz.ntmps121
   go_wp2
   go_loop [5, 9] (fun v i => v = .slice none 0 0 ∧ i = .int .i64 0) (fun _ _ => 0)
   case atStart => exact ⟨rfl, rfl⟩
   case round =>
    obtain ⟨rfl, rfl⟩ := hrel
    go_wp2
    go_ret
    exact ⟨_, rfl, OwnAt.nil (Frm.refl _ _) _ _⟩
 · have HH := Lib.hid hv; clear hv
   generalize hn : l.length = n at *
   have HN := Lib.hid hn; clear hn
   have HLL := Lib.hid hl; clear hl
   go_enter Tryz.func121, Tryz.ntmps121
   go_wp2
   go_loopw [5, 9] (fun v i ww => ∃ (k : Nat), k ≤ n ∧ i = .int .i64 k ∧ OwnAt w ww 122 3 v k (spC (spansL d (l.take k)))) (fun _ i _ => n - (intOf i).toNat)
   case atStart => exact ⟨0, Nat.zero_le _, rfl, OwnAt.nil (Frm.refl _ _) _ _⟩
   case round =>
    obtain ⟨k, hk, rfl, ho⟩ := hrel
    obtain ⟨av, cv, rfl⟩ := ho.shape
    have HO := Lib.hid ho; clear ho
    by_cases hlt : k < n
    · obtain ⟨p1, p2⟩ := run_at HH.out HN.out.symm k (by rw [HN.out]; exact hlt)
      have q1 := HO.out.frm.cell' p1 id
      have q2 := HO.out.frm.cell' p2 id
      have hbl := World.block_lt_of_cell? _ _ q1
      have hbl : b < wr.heap.size := hbl
      have HE := Lib.hid (spansL_take_succ (l := l) (k := k) d (by rw [HN.out]; exact hlt))
      generalize l.getD k (0, 0) = s at *
      have P1 := Lib.hid p1; clear p1
      have P2 := Lib.hid p2; clear p2
      go_wp2_with fail
      go_region_held3 (fun w' => w'.cell? ⟨b, off + k * 2, none⟩ = some (.int .i64 s.1) ∧ w'.cell? ⟨b, off + k * 2 + 1, none⟩ = some (.int .i64 s.2))
       (first | exact ⟨q1, q2⟩ | exact ⟨(Frm.alloc1 (Frm.drew NoS _)).cell' q1 id, (Frm.alloc1 (Frm.drew NoS _)).cell' q2 id⟩ | exact ⟨own2.frm.cell' P1.out id, own2.frm.cell' P2.out id⟩)
       (first | (refine step_appO w wr.drew [.int .i64 d, .int .i64 s.1, .int .i64 s.2] rfl (.tmp 12) (.tmp 25) 30 rfl 122 i0 _ 3 24 Tryz.underlying30 hi hz0 hz1 hz2 (by decide) (by decide) (.slice av k cv) k _ (HO.out.keep (Frm.drew _ _)) 1 1 (by simp [Act.eval]) (by simp [Act.eval]) rfl (by simp [Value.oneCell']) (by have := HLL.out; simp only [maxLen]; omega) (by have := HLL.out; omega) ?_; intro ad cc w2 own2))
      have OW := Lib.hid own2; clear own2
      go_wp2
      go_roundw
      case rel =>
       refine ⟨k + 1, by omega, by go_num, ?_⟩
       rw [HE.out, spC_append]
       exact OW.out
      case measure => simp [intOf]; omega
    · obtain rfl : k = n := by omega
      go_wp2
      go_ret
      rw [List.take_of_length_le (by rw [HN.out]; exact Nat.le_refl _)] at HO
      exact ⟨_, rfl, HO.out⟩
end Go.Proofs.YtcahemkomfaabaaGreat
