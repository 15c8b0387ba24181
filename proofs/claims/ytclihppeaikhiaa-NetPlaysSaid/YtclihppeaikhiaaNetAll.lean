/- net: All's closure: the walk. -/
import Derived.Test.YtclihppeaikhiaaNetTurn
import Derived.Deep.RegionLaw
namespace Go.Proofs.Ytclihppeaikhiaa
open Go.RowKit

theorem step_app1 {P : Program} {ops : Array Oper} {o : Oper} {a : Act} (w : World) {K : Act → World → Prop} {Q : Exit → Act → World → Prop} {E : Prop} (news : List Value) (hgd : o.guard = none) (s x : Operand) (t : TypeId)
    (ho : o.op = .call { callee := .builtin .append, args := #[s, x], argTypes := #[t, t] })
    (e : TypeId) (i : TypeInfo) (z : Value) (size bytes : Nat) (ht : P.underlying t = some (.slice e)) (hi : P.info? e = some i) (hz : i.zero = some z)
    (hsize : i.size = size) (hby : i.bytes = bytes) (hzs : z.cells.size = size) (hsz : 0 < size)
    (v : Value) (n : Nat) (xs : List Value) (hown : w.ownsRow 0 e size v n xs) (m c : Nat) (hv : a.eval s = v) (hx : a.eval x = .slice (some ⟨w.heap.size, 0, none⟩) m c)
    (hnl : news.length = m * size) (h1 : ∀ u ∈ news, u.oneCell' = true) (h63 : n + m ≤ maxLen) (hbytes : (n + m) * bytes ≤ 140737488355328)
    (h : ∀ ad c w', w'.ownsRow 0 e size (.slice ad (n + m) c) (n + m) (xs ++ news) → Frm (RowS v) w w' → Fresh w v (.slice ad (n + m) c) → K (a.put o.dst (.slice ad (n + m) c)) w') :
    if Region.wanted o (yielded ops a.tmps) = true then Oper.wp P o a (w.alloc (.cells news.toArray e)) K Q else E := by
  have hw : Region.wanted o (yielded ops a.tmps) = true := by simp [Region.wanted, hgd]
  rw [if_pos hw]
  have hs : Src P size t (.slice (some ⟨w.heap.size, 0, none⟩) m c) m news (w.alloc (.cells news.toArray e)) :=
    Src.ofSlice _ ht ⟨w.heap.size, 0, none⟩ m c news hnl (fun j u hj => by
      have hadd : (⟨w.heap.size, 0, none⟩ : Addr).add j = ⟨w.heap.size, j, none⟩ := by unfold Addr.add; split <;> simp_all
      rw [hadd, cell_of_row (w.alloc (.cells news.toArray e)) w.heap.size j news.toArray e (0, 0) (heap_alloc_new w _)]
      simpa using hj) h1
  obtain ⟨v', w', hr, h2, h3, h4, ⟨ad, c', rfl⟩, h6⟩ := run_app (P := P) (w.alloc (.cells news.toArray e)) t t o.type e i z size bytes ht hi hz hsize hby hzs hsz v n xs (hown.alloc _) _ m news hs h63 hbytes
  unfold Oper.wp execOp
  simp only [ho, resolve, invoke, builtin, Sem.run_bind, Sem.run_pure, Result.andThen_ok, List.map_toArray, List.map_cons, List.map_nil, hv, hx, hr]
  refine h ad c' w' h2 ((Frm.alloc (RowS v) w _).trans h3 (fun _ _ h => h)) fun k hk => ?_
  rcases h4 k hk with h | h
  · exact .inl h
  · refine .inr ?_
    simp at h
    omega

theorem par_info : (Try.prog.info? 43).map (fun i => (i.zero, i.size, i.bytes)) = some (some (.agg #[.int .i64 0, .slice none 0 0]), 2, 32) := by kernel_rfl

set_option maxHeartbeats 1000000 in
set_option maxRecDepth 1000000 in
theorem all1 (w : World) (k t : Int) (a : Option Addr) (c : Nat) (bs : List UInt8) (hrd : Rd w (.slice a bs.length c) bs.length (bV bs)) (hl : bs.length ≤ 140737488355328) (ob : Nat) (v : Value) (m : Nat) (xs : List Value)
    (hob : w.heap[ob]? = some (.cells #[v] 47 (0, 0))) (hown : w.ownsRow 0 43 2 v m xs) (hne : ∀ k, v.ownBlock = some k → k ≠ ob) (hm : m ≤ 1000) :
    Calls Try.prog 51 #[.int .i64 k, .agg #[.int .i64 t, .slice a bs.length c], .pointer (some ⟨ob, 0, none⟩)] w fun e w' => e = .returned (.tuple #[.agg #[.int .i64 t, .slice a bs.length c], .bool true]) ∧
      ∃ v' a' c', w'.heap[ob]? = some (.cells #[v'] 47 (0, 0)) ∧ w'.ownsRow 0 43 2 v' (m + 1) (xs ++ [.int .i64 t, .slice a' bs.length c']) ∧ Fresh w v v' ∧ (∀ k, v'.ownBlock = some k → k ≠ ob) ∧
        w'.ownsRow 0 5 1 (.slice a' bs.length c') bs.length (bV bs) ∧ NewV w (.slice a' bs.length c') ∧ Frm (fun i => i = ob ∨ RowS v i) w w' := by
  obtain ⟨i0, hi, hz0, hz1, hz2⟩ := info_parts par_info
  have hw0 : ∃ w0, w0 = ((w.alloc (.cells #[.int .i64 t, .slice a bs.length c] 43)).alloc (.cells #[.int .i64 0, .slice none 0 0] 43)).drew := ⟨_, rfl⟩
  obtain ⟨w0, hw0⟩ := hw0
  have hf : Frm (fun _ => False) w w0 := by rw [hw0]; exact ((Frm.alloc _ w _).trans (Frm.alloc _ _ _) fun _ _ h => h).trans (Frm.drew _ _) fun _ _ h => h
  have b0 : w0.heap[w.heap.size]? = some (.cells #[.int .i64 t, .slice a bs.length c] 43) := by
    rw [hw0]
    show ((w.alloc (.cells #[.int .i64 t, .slice a bs.length c] 43)).alloc (.cells #[.int .i64 0, .slice none 0 0] 43)).heap[w.heap.size]? = _
    rw [Below.heap_alloc _ _ _ (by simp)]; exact heap_alloc_new w _
  have b1 : w0.heap[w.heap.size + 1]? = some (.cells #[.int .i64 0, .slice none 0 0] 43) := by
    rw [hw0]
    have := heap_alloc_new (w.alloc (.cells #[.int .i64 t, .slice a bs.length c] 43)) (.cells #[.int .i64 0, .slice none 0 0] 43)
    show ((w.alloc (.cells #[.int .i64 t, .slice a bs.length c] 43)).alloc (.cells #[.int .i64 0, .slice none 0 0] 43)).heap[w.heap.size + 1]? = _
    simpa only [World.size_alloc] using this
  have bo := hf.blk hob id
  have cob := cell_at hob 0 rfl
  have cbo := cell_at bo 0 rfl
  have own0 := hf.owns hown (fun _ _ => id)
  have hcall := clone_par w0 t _ bs (hrd.keep hf fun _ _ h => h) hl
  have oblt := lt_of_block hob
  have hs0 : w0.heap.size = w.heap.size + 2 := by rw [hw0]; show ((w.alloc _).alloc _).heap.size = _; simp
  have hf2 := hf
  rw [hw0] at hcall bo cbo b0 b1 hf2 hs0
  have HF2 := Lib.hid hf2; clear hf2
  have HW0 := Lib.hid hw0; clear hw0
  have B0 := Lib.hid b0; clear b0
  have B1 := Lib.hid b1; clear b1
  have BO := Lib.hid bo; clear bo
  have HF := Lib.hid hf; clear hf
  have OWN := Lib.hid own0; clear own0
  have HCALL := Lib.hid hcall; clear hcall
  have HS := Lib.hid hs0; clear hs0
  have hvlt := own_lt hown
  have HLT := Lib.hid hvlt; clear hvlt
  have HNE := Lib.hid hne; clear hne
  have HOB := Lib.hid hob; clear hob
  clear hrd hown
  go_enter Try.func51, Try.ntmps51
  go_wp2_with fail
  go_region_law (first
    | (refine step_app1 _ [.int .i64 t, .slice _ bs.length _] rfl (.tmp 7) (.tmp 10) 47 rfl 43 i0 _ 2 32 Try.underlying47 hi hz0 hz1 hz2 (by decide) (by decide) v m xs hox 1 1 (by simp [Act.eval]) (by simp [Act.eval]) rfl (by simp [Value.oneCell']) (by simp only [maxLen]; omega) (by omega) ?_
       intro ad cc wy oy fy fry; have rob2 := fy.blk rob (fun h => HNE.out _ h rfl); have coby := cell_at rob2 0 rfl; have foby := free_at rob2 0)
    | (go_simp; go_at_call 47; refine HCALL.out.mono ?_; rintro e wx ⟨v', rfl, hc⟩; obtain ⟨a', c', rfl⟩ := hc.shape; have rob := hc.frm.blk BO.out id; have cob' := cell_at rob 0 rfl; have cobn := (fun o : Obj => (Frm.alloc (fun _ => False) wx o).cell' cob' id); have hox := hc.frm.owns (HW0.out ▸ OWN.out) (fun _ _ => id); dsimp only))
  all_goals
    have nob : ob ≠ w.heap.size := by omega
    have nob1 : ob ≠ w.heap.size + 1 := by omega
    have y0 := fy.blk (hc.frm.blk B0.out id) (fun h => by have := HLT.out _ h; omega)
    have y1 := fy.blk (hc.frm.blk B1.out id) (fun h => by have := HLT.out _ h; omega)
    have y2 : (wy.setCell ⟨ob, 0, none⟩ (.slice ad (m + 1) cc)).heap[ob]? = some (.cells #[.slice ad (m + 1) cc] 47 (0, 0)) := set_at rob2 0 _
    have fz : Frm (fun i => i = ob) wy (wy.setCell ⟨ob, 0, none⟩ (.slice ad (m + 1) cc)) := Frm.setCell (S := fun i => i = ob) wy (p := ⟨ob, 0, none⟩) (.inl rfl) _
    have z0 := fz.blk y0 (fun h => nob h.symm)
    have z1 := fz.blk y1 (fun h => nob1 h.symm)
    have s1 := HF2.out.size
    have s2 := hc.frm.size
    have nez : ∀ k, (Value.slice ad (m + 1) cc).ownBlock = some k → k ≠ ob := fun k hk => by
      rcases fry k hk with h | h
      · exact HNE.out k h
      · omega
    have oz := fz.owns oy (fun k hk h => nez k hk h)
    have fxz : Frm (fun i => i = ob ∨ RowS v i) wx (wy.setCell ⟨ob, 0, none⟩ (.slice ad (m + 1) cc)) := (fy.mono fun _ _ h => .inr h).trans fz fun _ _ h => .inl h
    have fall : Frm (fun i => i = ob ∨ RowS v i) w (wy.setCell ⟨ob, 0, none⟩ (.slice ad (m + 1) cc)) := ((HF2.out.trans hc.frm fun _ _ h => h).mono fun _ _ h => h.elim).trans fxz fun _ _ h => h
    have s3 := HS.out
    have hnv2 : ∀ k, (Value.slice a' bs.length c').ownBlock = some k → w.heap.size + 2 ≤ k := fun k hk => by have := hc.new k hk; omega
    have hnv : NewV w (.slice a' bs.length c') := fun k hk => by have := hnv2 k hk; omega
    have s4 : w.heap.size + 2 ≤ wx.heap.size := by omega
    have HNV := Lib.hid hnv; clear hnv
    have HNV2 := Lib.hid hnv2; clear hnv2
    clear s1 s2 s3
    have ou := fxz.owns hc.own (fun k hk h => by
      have := HNV2.out k hk
      rcases h with h | h
      · omega
      · have := HLT.out k h; omega)
    have FRY := Lib.hid fry; clear fry
    have FXZ := Lib.hid fxz; clear fxz
    have FALL := Lib.hid fall; clear fall
    have OU := Lib.hid ou; clear ou
    have NEZ := Lib.hid nez; clear nez
    clear fz fy oy hc
    have OZ := Lib.hid oz; clear oz
    have Y2 := Lib.hid y2; clear y2
    clear rob rob2 coby foby cob' cobn hox y0 y1
    generalize wy.setCell ⟨ob, 0, none⟩ (.slice ad (m + 1) cc) = wz at *
    have c0 := cell_at z0 0 rfl
    have c1 := cell_at z0 1 rfl
    have c2 := cell_at z1 0 rfl
    have c3 := cell_at z1 1 rfl
    have f2 := free_at z1 0
    have f3 := free_at z1 1
    go_wp2
    have r2 := set_at z1 0 (.int .i64 t)
    have r3 := set_at r2 1 (.slice a bs.length c)
    have d0 := cell_at r3 0 rfl
    have d1 := cell_at r3 1 rfl
    simp at d0 d1
    have fv : Frm (fun i => i = w.heap.size + 1) wz ((wz.setCell ⟨w.heap.size + 1, 0, none⟩ (.int .i64 t)).setCell ⟨w.heap.size + 1, 1, none⟩ (.slice a bs.length c)) :=
      (Frm.setCell (S := fun i => i = w.heap.size + 1) wz (p := ⟨w.heap.size + 1, 0, none⟩) (.inl rfl) _).trans (Frm.setCell (S := fun i => i = w.heap.size + 1) _ (p := ⟨w.heap.size + 1, 1, none⟩) (.inl rfl) _) fun _ _ h => h
    refine bodyPost_ret (v := .tuple #[.agg #[.int .i64 t, .slice a bs.length c], .bool true]) (by simp [results, Try.results51, go_sem, d0, d1]) rfl ⟨rfl, _, a', c', fv.blk Y2.out nob1, fv.owns OZ.out (fun k hk h => ?_), fun k hk => ?_, NEZ.out, fv.owns OU.out (fun k hk h => ?_), HNV.out, FALL.out.trans fv fun i hi h => by have h1 : i = w.heap.size + 1 := h; omega⟩
    · have h1 : k = w.heap.size + 1 := h
      rcases FRY.out k hk with h2 | h2
      · have := HLT.out k h2; omega
      · omega
    · rcases FRY.out k hk with h2 | h2
      · exact .inl h2
      · exact .inr (by omega)
    · have h1 : k = w.heap.size + 1 := h
      have := HNV2.out k hk
      omega

end Go.Proofs.Ytclihppeaikhiaa
