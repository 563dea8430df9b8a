/-
  region: slices.Insert of one piece.
-/
import Derived.Test.YtjpjobpkeejmcaaRows
import Derived.Test.YtjpjobpkeejmcaaRgA
set_option linter.unusedVariables false
set_option linter.unusedSimpArgs false
namespace Go.Proofs.Ytjpjobpkeejmcaa
open Go.RowKit

theorem E_pc : ElemTy Try.prog 34 47 3 24 := elem_of Try.underlying34 (z := .agg #[.int .i64 0, .int .i64 0, .int .i64 0]) (by kernel_rfl) rfl (by decide)
theorem pc_size : (Try.prog.info? 47).map (·.size) = some 3 := by kernel_rfl

theorem step_copy_run {P : Program} {ops : Array Oper} {o : Oper} {a : Act} {w : World} {K : Act → World → Prop} {Q : Exit → Act → World → Prop} {E : Prop}
    (hg : o.guard = none) (d x : Operand) (dT sT : TypeId) (hop : o.op = Op.call { callee := Callee.builtin Builtin.copy, args := #[d, x], argTypes := #[dT, sT] })
    (v u : Value) (hd : a.eval d = v) (hx : a.eval x = u) {v' : Value} {w' : World} (hr : (Builtin.copy_ #[dT, sT] o.type #[v, u]).run P w = .ok v' w') (hK : K (a.put o.dst v') w') :
    if Region.wanted o (yielded ops a.tmps) = true then Oper.wp P o a w K Q else E := by
  have hw : Region.wanted o (yielded ops a.tmps) = true := by simp [Region.wanted, hg]
  rw [if_pos hw]
  unfold Oper.wp
  simp [execOp, hop, resolve, invoke, builtin, hd, hx, hr, Result.andThen]
  exact hK
theorem wpList_copy_run {P : Program} (w : World) {ops : Array Oper} {rest : List Oper} {o : Oper} {a : Act} {Q : Exit → Act → World → Prop} (hgd : o.guard = none) (d s : Operand) (t t' : TypeId)
    (ho : o.op = .call { callee := .builtin .copy, args := #[d, s], argTypes := #[t, t'] }) (v u : Value) (hd : a.eval d = v) (hs : a.eval s = u) {v' : Value} {w' : World}
    (hr : (Builtin.copy_ #[t, t'] o.type #[v, u]).run P w = .ok v' w') (h : wpList P ops Q rest (a.put o.dst v') w') : wpList P ops Q (o :: rest) a w :=
  wpList_plain hgd fun _ hK => by
    unfold Oper.wp execOp
    simp only [ho, resolve, invoke, builtin, Sem.run_bind, Sem.run_pure, Result.andThen_ok, List.map_toArray, List.map_cons, List.map_nil, hd, hs, hr]
    exact hK _ _ h
theorem cutA_some {g c k size : Nat} (h : ¬ c = k) : cutA (some ⟨g, 0, none⟩) c k size = some ⟨g, k * size, none⟩ := by
  unfold cutA
  rw [if_neg h]
  show some ((⟨g, 0, none⟩ : Addr).add (k * size)) = _
  rw [Addr.add_lit, Nat.zero_add]

theorem ins_list {L xs vs : List Value} {n i c : Nat} (h3 : vs.length = 3) (hL : L.length = c * 3) (hx : L.take (n * 3) = xs) (hi : i < n) (hc : n + 1 ≤ c) :
    let L1 := L.take ((i + 1) * 3) ++ xs.drop (i * 3) ++ L.drop ((i + 1) * 3 + (xs.drop (i * 3)).length)
    let L2 := L1.take (i * 3) ++ vs ++ L1.drop (i * 3 + vs.length)
    L1.length = c * 3 ∧ L2.length = c * 3 ∧ L2.take ((n + 1) * 3) = xs.take (i * 3) ++ vs ++ xs.drop (i * 3) := by
  have hxl : xs.length = n * 3 := by rw [← hx, List.length_take, hL]; omega
  have hd : (xs.drop (i * 3)).length = n * 3 - i * 3 := by rw [List.length_drop, hxl]
  have h1 : (L.take ((i + 1) * 3)).length = (i + 1) * 3 := by rw [List.length_take, hL]; omega
  intro L1 L2
  have e1 : L1.length = c * 3 := by
    show (L.take ((i + 1) * 3) ++ xs.drop (i * 3) ++ L.drop ((i + 1) * 3 + (xs.drop (i * 3)).length)).length = c * 3
    rw [List.length_append, List.length_append, h1, List.length_drop (l := L), hd, hL]
    omega
  have e2 : L1.take (i * 3) = xs.take (i * 3) := by
    show (L.take ((i + 1) * 3) ++ xs.drop (i * 3) ++ L.drop ((i + 1) * 3 + (xs.drop (i * 3)).length)).take (i * 3) = xs.take (i * 3)
    rw [List.append_assoc, List.take_append_of_le_length (by rw [h1]; omega), List.take_take, ← hx, List.take_take]
    congr 1
    omega
  have e3 : L1.drop (i * 3 + vs.length) = xs.drop (i * 3) ++ L.drop ((i + 1) * 3 + (xs.drop (i * 3)).length) := by
    show (L.take ((i + 1) * 3) ++ xs.drop (i * 3) ++ L.drop ((i + 1) * 3 + (xs.drop (i * 3)).length)).drop (i * 3 + vs.length) = _
    rw [List.append_assoc, h3, show i * 3 + 3 = (L.take ((i + 1) * 3)).length by rw [h1]; omega, List.drop_left]
  have e4 : L2 = (xs.take (i * 3) ++ vs ++ xs.drop (i * 3)) ++ L.drop ((i + 1) * 3 + (xs.drop (i * 3)).length) := by
    show L1.take (i * 3) ++ vs ++ L1.drop (i * 3 + vs.length) = _
    rw [e2, e3]
    simp
  have e5 : (xs.take (i * 3) ++ vs ++ xs.drop (i * 3)).length = (n + 1) * 3 := by
    rw [List.length_append, List.length_append, List.length_take, hd, h3, hxl]
    omega
  refine ⟨e1, ?_, ?_⟩
  · rw [e4, List.length_append, e5, List.length_drop (l := L), hd, hL]
    omega
  · rw [e4, ← e5, List.take_left]

theorem run_overlaps (w : World) (V g la ca lb cb o : Nat) (tv : TypeId) (cv cur : Array Value) (hne : V ≠ g) (hV : Blk w V tv cv) (hg : Blk w g 47 cur) (hc : cur.size ≠ 0) :
    (callFunc 32 #[.slice (some ⟨V, 0, none⟩) la ca, .slice (some ⟨g, o, none⟩) lb cb]).run Try.prog w = .ok (.value (.bool false)) w := by
  rw [run_callFunc_extern Try.func32 (by kernel_rfl) (by kernel_rfl) (by kernel_rfl) (e := Extern.SlicesOverlaps.overlaps #[34, 34] #[4]) (by kernel_rfl),
    Lib.run_overlaps_apart w 34 4 47 Try.underlying34 3 (fun w => by kernel_rfl) ⟨V, 0, none⟩ ⟨g, o, none⟩ la ca lb cb hne tv 47 cv.size cur.size (by simp [World.shape?, show w.heap[V]? = some (.cells cv tv (0, 0)) from hV]) (by simp [World.shape?, show w.heap[g]? = some (.cells cur 47 (0, 0)) from hg]) hc (hV.frozen 0) (hV.frozen _)]
  rfl

set_option maxRecDepth 100000 in
set_option maxHeartbeats 3200000 in
theorem ins_end (w : World) (B n c V : Nat) (D : Option Addr) (xs : List Value) (tv : TypeId) (v0 v1 v2 : Value) (hB : B ≤ w.heap.size) (h : w.ownsRow B 47 3 (.slice D n c) n xs) (hn : n ≤ 1000000)
    (hV : Blk w V tv #[v0, v1, v2]) (h1 : ∀ u ∈ [v0, v1, v2], u.oneCell' = true) :
    Calls Try.prog 24 #[.slice D n c, .int .i64 (n : Int), .slice (some ⟨V, 0, none⟩) 1 1] w fun e w' => ∃ D' c', e = .returned (.slice D' (n + 1) c') ∧
      w'.ownsRow B 47 3 (.slice D' (n + 1) c') (n + 1) (xs ++ [v0, v1, v2]) ∧ w.grownBy w' (blkOf D) ∧ (blkOf D' = blkOf D ∨ blkOf D' = some w.heap.size) := by
  have hcap := own_cap h
  have hsl := slice_ln (P := Try.prog) E_pc D n c .i64 (n : Int) n 0 (c - n) rfl (Nat.le_refl _) (by omega) rfl
  have hrn : Reads w (fun k => k = V) 3 (some ⟨V, 0, none⟩) 1 [v0, v1, v2] := ⟨rfl, fun _ => ⟨_, rfl, rfl, hV.lt, fun j u hu => by rw [Addr.add_lit, Nat.zero_add, hV.cell j]; rw [← hu]; simp⟩⟩
  have hm : n + 1 ≤ maxLen := by unfold maxLen; omega
  go_enter Try.func24, Try.ntmps24
  go_wp2_with (at_builtin; refine wpList_append_src _ rfl _ _ (by rfl) E_pc (by rfl) h (by rfl) hrn h1 hm (by omega) hB ?_; intro D3 c3 w3 hown hgrow hat)
  go_ret
  exact ⟨D3, c3, rfl, hown, hgrow, hat⟩

set_option maxRecDepth 100000 in
set_option maxHeartbeats 6400000 in
theorem ins_shift (w : World) (B n c i g V : Nat) (cur : Array Value) (xs : List Value) (tv : TypeId) (v0 v1 v2 : Value) (hg : Blk w g 47 cur) (hsz : cur.size = c * 3) (hx : cur.toList.take (n * 3) = xs) (hi : i < n) (hc : n + 1 ≤ c) (hcm : c ≤ maxLen) (hBg : B ≤ g) (hVg : V ≠ g)
    (hn : n ≤ 1000000) (h1x : ∀ u ∈ xs, u.oneCell' = true) (hV : Blk w V tv #[v0, v1, v2]) (h1 : ∀ u ∈ [v0, v1, v2], u.oneCell' = true) :
    Calls Try.prog 24 #[.slice (some ⟨g, 0, none⟩) n c, .int .i64 (i : Int), .slice (some ⟨V, 0, none⟩) 1 1] w fun e w' => ∃ D' c', e = .returned (.slice D' (n + 1) c') ∧
      w'.ownsRow B 47 3 (.slice D' (n + 1) c') (n + 1) (xs.take (i * 3) ++ [v0, v1, v2] ++ xs.drop (i * 3)) ∧ Step (fun k => k = g) w w' ∧ (blkOf D' = some g ∨ blkOf D' = some w.heap.size) := by
  obtain ⟨q1, q2, q3⟩ := ins_list (vs := [v0, v1, v2]) rfl (by rw [Array.length_toList]; exact hsz) hx hi hc
  have hxl : xs.length = n * 3 := by rw [← hx, List.length_take, Array.length_toList, hsz]; omega
  have hdl : (xs.drop (i * 3)).length = (n - i) * 3 := by rw [List.length_drop, hxl]; omega
  have hs0 := slice_ln (P := Try.prog) E_pc (some ⟨g, 0, none⟩) n c .i64 (i : Int) i (n - i) (c - i) rfl (by omega) rfl rfl
  rw [cutA_some (show ¬ c = i by omega)] at hs0
  have hs1 := slice_hn (P := Try.prog) E_pc (some ⟨g, 0, none⟩) n c .i64 ((n : Int) + 1) (n + 1) (by omega) (by omega)
  have hs2 := slice_ln (P := Try.prog) E_pc (some ⟨g, 0, none⟩) (n + 1) c .i64 ((i : Int) + 1) (i + 1) (n - i) (c - (i + 1)) (by omega) (by omega) (by omega) rfl
  rw [cutA_some (show ¬ c = i + 1 by omega)] at hs2
  have hs3 := slice_ln (P := Try.prog) E_pc (some ⟨g, 0, none⟩) (n + 1) c .i64 (i : Int) i (n + 1 - i) (c - i) rfl (by omega) rfl rfl
  rw [cutA_some (show ¬ c = i by omega)] at hs3
  have hw1 := IntWalk.i64_in ((i : Int) + 1) (by omega)
  have hw2 := IntWalk.i64_in ((n : Int) + 1) (by omega)
  have hne : ((i : Int) == (n : Int)) = false := by simp; omega
  have hni : ¬ (i : Int) = (n : Int) := by omega
  have hgt : ¬ (c : Int) < (n : Int) + 1 := by omega
  have hgt' : decide ((c : Int) < (n : Int) + 1) = false := decide_eq_false hgt
  have hov : ∀ lb cb o, (callFunc 32 #[.slice (some ⟨V, 0, none⟩) 1 1, .slice (some ⟨g, o, none⟩) lb cb]).run Try.prog w = .ok (.value (.bool false)) w := fun lb cb o => run_overlaps w V g 1 1 lb cb o tv _ cur hVg hV hg (by omega)
  have hsrc : ∀ j v, (xs.drop (i * 3))[j]? = some v → w.drew.cell? ((⟨g, i * 3, none⟩ : Addr).add j) = some v := fun j v hj => by
    rw [Addr.add_lit]
    rw [List.getElem?_drop] at hj
    show w.cell? ⟨g, i * 3 + j, none⟩ = some v
    rw [hg.cell (i * 3 + j)]
    rw [← hx, List.getElem?_take] at hj
    split at hj
    · rw [← Array.getElem?_toList]; exact hj
    · cases hj
  have hcp1 : ∀ ty, (Builtin.copy_ #[34, 34] ty #[.slice (some ⟨g, (i + 1) * 3, none⟩) (n - i) (c - (i + 1)), .slice (some ⟨g, i * 3, none⟩) (n + 1 - i) (c - i)]).run Try.prog w.drew = _ := fun ty =>
    run_copyN w.drew 34 34 ty 47 3 g ((i + 1) * 3) (n - i) (c - (i + 1)) ⟨g, i * 3, none⟩ (n + 1 - i) (c - i) cur 47 (xs.drop (i * 3)) (n - i) Try.underlying34 pc_size hg.drew
      (by simp only [Nat.min_def]; split <;> omega) hdl hsrc (by rw [hdl, hsz]; omega) (fun u hu => h1x u (List.mem_of_mem_drop hu))
  obtain ⟨C1, hC1⟩ : ∃ C1 : Array Value, C1 = (cur.toList.take ((i + 1) * 3) ++ xs.drop (i * 3) ++ cur.toList.drop ((i + 1) * 3 + (xs.drop (i * 3)).length)).toArray := ⟨_, rfl⟩
  rw [← hC1] at hcp1
  have hC1s : C1.size = c * 3 := by rw [hC1]; simpa using q1
  have hb1 : Blk (w.drew.setRow g C1) g 47 C1 := Blk.reset hg.drew
  have hV1 : Blk (w.drew.setRow g C1) V tv #[v0, v1, v2] := (setRow_other w.drew g V C1 hVg).trans hV
  have hcp2 : ∀ ty, (Builtin.copy_ #[34, 34] ty #[.slice (some ⟨g, i * 3, none⟩) (n + 1 - i) (c - i), .slice (some ⟨V, 0, none⟩) 1 1]).run Try.prog (w.drew.setRow g C1) = _ := fun ty =>
    run_copyN (w.drew.setRow g C1) 34 34 ty 47 3 g (i * 3) (n + 1 - i) (c - i) ⟨V, 0, none⟩ 1 1 C1 47 [v0, v1, v2] 1 Try.underlying34 pc_size hb1
      (by simp only [Nat.min_def]; split <;> omega) rfl (fun j v hj => by rw [Addr.add_lit, Nat.zero_add, hV1.cell j]; rw [← hj]; simp) (by rw [hC1s]; simp; omega) h1
  obtain ⟨C2, hC2⟩ : ∃ C2 : Array Value, C2 = (C1.toList.take (i * 3) ++ [v0, v1, v2] ++ C1.toList.drop (i * 3 + [v0, v1, v2].length)).toArray := ⟨_, rfl⟩
  rw [← hC2] at hcp2
  have hC2s : C2.size = c * 3 := by rw [hC2, hC1]; simpa using q2
  have hC2t : C2.toList.take ((n + 1) * 3) = xs.take (i * 3) ++ [v0, v1, v2] ++ xs.drop (i * 3) := by rw [hC2, hC1]; exact q3
  have HF : Hid (∃ D' c', Value.slice (some ⟨g, 0, none⟩) (n + 1) c = .slice D' (n + 1) c' ∧ ((w.drew.setRow g C1).setRow g C2).ownsRow B 47 3 (.slice D' (n + 1) c') (n + 1) (xs.take (i * 3) ++ [v0, v1, v2] ++ xs.drop (i * 3)) ∧ Step (fun k => k = g) w ((w.drew.setRow g C1).setRow g C2) ∧ (blkOf D' = some g ∨ blkOf D' = some w.heap.size)) :=
    ⟨_, _, rfl, own_mk hBg (Blk.reset hb1) (by rw [← hC2t, List.length_take, Array.length_toList, hC2s]; omega) hc hcm hC2s hC2t, Step.setRow (F := fun k => k = g) (Step.setRow (F := fun k => k = g) Step.refl.drew (g := g) (.inl rfl) C1) (.inl rfl) C2, .inl rfl⟩
  clear q1 q2 q3 hsrc hC1 hC2 hb1 hV1 hC1s hC2s hC2t hx h1x hdl hxl hV hg h1
  go_enter Try.func24, Try.ntmps24
  go_wp2_with (simp only [hov])
  refine Mix.wp_region_mix [8] [] (Step (fun _ => False) w) (by kernel_rfl) (by kernel_rfl) Step.refl.drew (fun hcls => ?_)
  refine Mix.wpL_reads 8 (by rfl) ?_
  simp only [List.take_succ_cons, List.drop_succ_cons, List.take_zero, List.drop_zero]
  repeat (go_big_quiet_step (fail))
  refine wpQuiet_nil ?_
  refine Mix.wpL_op (by rfl) (fun K hK => ?_)
  refine step_copy_run rfl _ _ 34 34 rfl _ _ rfl rfl (hcp1 _) ?_
  refine hK _ _ (fun hlt => absurd hlt (by decide)) ?_
  clear hK K
  refine Mix.wpL_end ?_
  go_wp2_with (at_builtin; refine wpList_copy_run _ rfl _ _ 34 34 rfl _ _ rfl rfl (hcp2 _) ?_)
  go_ret
  obtain ⟨D', c', e1, e2, e3, e4⟩ := HF.out
  exact ⟨D', c', by rw [← e1]; rfl, e2, e3, e4⟩

theorem grow_list {R xs vs : List Value} {n i G : Nat} (h3 : vs.length = 3) (hR : R.length = G * 3) (hx : R.take (i * 3) = xs.take (i * 3)) (hxl : xs.length = n * 3) (hi : i < n) (hG : n + 1 ≤ G) :
    let R1 := R.take (i * 3) ++ vs ++ R.drop (i * 3 + vs.length)
    let R2 := R1.take ((i + 1) * 3) ++ xs.drop (i * 3) ++ R1.drop ((i + 1) * 3 + (xs.drop (i * 3)).length)
    R1.length = G * 3 ∧ R2.length = G * 3 ∧ R2.take ((n + 1) * 3) = xs.take (i * 3) ++ vs ++ xs.drop (i * 3) := by
  have hd : (xs.drop (i * 3)).length = n * 3 - i * 3 := by rw [List.length_drop, hxl]
  have ht : (xs.take (i * 3)).length = i * 3 := by rw [List.length_take, hxl]; omega
  intro R1 R2
  have e0 : R1 = (xs.take (i * 3) ++ vs) ++ R.drop (i * 3 + vs.length) := by
    show R.take (i * 3) ++ vs ++ R.drop (i * 3 + vs.length) = _
    rw [hx]
  have l0 : (xs.take (i * 3) ++ vs).length = (i + 1) * 3 := by rw [List.length_append, ht, h3]; omega
  have e1 : R1.length = G * 3 := by
    rw [e0, List.length_append, l0, List.length_drop, h3, hR]
    omega
  have e2 : R1.take ((i + 1) * 3) = xs.take (i * 3) ++ vs := by rw [e0, ← l0, List.take_left]
  have e3 : R2 = (xs.take (i * 3) ++ vs ++ xs.drop (i * 3)) ++ R1.drop ((i + 1) * 3 + (xs.drop (i * 3)).length) := by
    show R1.take ((i + 1) * 3) ++ xs.drop (i * 3) ++ R1.drop ((i + 1) * 3 + (xs.drop (i * 3)).length) = _
    rw [e2]
  have e4 : (xs.take (i * 3) ++ vs ++ xs.drop (i * 3)).length = (n + 1) * 3 := by
    rw [List.length_append, l0, hd]
    omega
  refine ⟨e1, ?_, ?_⟩
  · rw [e3, List.length_append, e4, List.length_drop (l := R1), hd, e1]
    omega
  · rw [e3, ← e4, List.take_left]

set_option maxRecDepth 100000 in
set_option maxHeartbeats 6400000 in
theorem ins_grow (w : World) (B n i g V : Nat) (cur : Array Value) (xs : List Value) (tv : TypeId) (v0 v1 v2 : Value) (hg : Blk w g 47 cur) (hsz : cur.size = n * 3) (hx : cur.toList.take (n * 3) = xs) (hi : i < n) (hB : B ≤ w.heap.size)
    (hn : n ≤ 1000000) (h1x : ∀ u ∈ xs, u.oneCell' = true) (hV : Blk w V tv #[v0, v1, v2]) (h1 : ∀ u ∈ [v0, v1, v2], u.oneCell' = true) :
    Calls Try.prog 24 #[.slice (some ⟨g, 0, none⟩) n n, .int .i64 (i : Int), .slice (some ⟨V, 0, none⟩) 1 1] w fun e w' => ∃ D' c', e = .returned (.slice D' (n + 1) c') ∧
      w'.ownsRow B 47 3 (.slice D' (n + 1) c') (n + 1) (xs.take (i * 3) ++ [v0, v1, v2] ++ xs.drop (i * 3)) ∧ Step (fun k => k = g) w w' ∧ (blkOf D' = some g ∨ blkOf D' = some w.heap.size) := by
  obtain ⟨_, _, i0, z, hi0, hz0, hzs, hzb, hzc⟩ := E_pc
  have hxl : xs.length = n * 3 := by rw [← hx, List.length_take, Array.length_toList, hsz]; omega
  have hdl : (xs.drop (i * 3)).length = (n - i) * 3 := by rw [List.length_drop, hxl]; omega
  have hcell : ∀ j v, xs[j]? = some v → w.cell? ⟨g, j, none⟩ = some v := fun j v hj => by
    rw [hg.cell j]
    rw [← hx, List.getElem?_take] at hj
    split at hj
    · rw [← Array.getElem?_toList]; exact hj
    · cases hj
  have hs0 := slice_ln (P := Try.prog) E_pc (some ⟨g, 0, none⟩) n n .i64 (i : Int) i (n - i) (n - i) rfl (by omega) rfl rfl
  rw [cutA_some (show ¬ n = i by omega)] at hs0
  have hs1 := slice_hn (P := Try.prog) E_pc (some ⟨g, 0, none⟩) n n .i64 (i : Int) i rfl (by omega)
  have hkk : (n : Int) + 1 - (i : Int) = ((n + 1 - i : Nat) : Int) := by omega
  have hold : (Builtin.firstCells i0.size i (.slice (some ⟨g, 0, none⟩) i n)).run Try.prog w.drew = .ok (xs.take (i * 3)).toArray w.drew := by
    rw [hzs]
    exact run_firstCells_some w.drew 3 i ⟨g, 0, none⟩ i n (xs.take (i * 3)) (by rw [List.length_take, hxl]; omega) (fun j v hj => by
      rw [Addr.add_lit, Nat.zero_add]
      rw [List.getElem?_take] at hj
      split at hj
      · exact hcell j v hj
      · cases hj)
  have hrz : ∀ ty, (Builtin.append_ #[34, 3] ty #[.slice (some ⟨g, 0, none⟩) i n, .int .i64 ((n : Int) + 1 - (i : Int))]).run Try.prog w =
      .ok (.slice (some ⟨w.heap.size, 0, none⟩) (n + 1) (grownCap w (n + 1) n 47)) (w.drew.alloc (.cells ((xs.take (i * 3)).toArray ++ Builtin.zeroCells z.cells (n + 1 - i) ++ Builtin.zeroCells z.cells (grownCap w (n + 1) n 47 - (n + 1))) 47)) := fun ty => by
    have h := Lib.run_append_grow_zeros w 34 3 ty 47 i0 z .i64 .i64 Try.underlying34 Try.underlying3 hi0 hz0 (some ⟨g, 0, none⟩) i n (xs.take (i * 3)) hold (n + 1 - i) (by omega) (by rw [hzs]; decide) (by omega) (by omega) (by rw [hzb]; omega)
      (by rw [hzb, show i + (n + 1 - i) = n + 1 by omega]; exact growslice_fits (by omega) (by omega))
    rw [show i + (n + 1 - i) = n + 1 by omega] at h
    rw [hkk]
    exact h
  have hG := grownCap_ge w (n + 1) n 47
  have hGm := grownCap_le_maxLen w (n + 1) n 47 (by unfold maxLen; omega)
  obtain ⟨G, hGe⟩ : ∃ G, G = grownCap w (n + 1) n 47 := ⟨_, rfl⟩
  rw [← hGe] at hrz hG hGm
  obtain ⟨ROW, hROW⟩ : ∃ ROW : Array Value, ROW = (xs.take (i * 3)).toArray ++ Builtin.zeroCells z.cells (n + 1 - i) ++ Builtin.zeroCells z.cells (G - (n + 1)) := ⟨_, rfl⟩
  rw [← hROW] at hrz
  have hRs : ROW.size = G * 3 := by
    rw [hROW]
    simp [Builtin.zeroCells, hzc, hxl]
    omega
  have hRt : ROW.toList.take (i * 3) = xs.take (i * 3) := by
    have e : ROW.toList = xs.take (i * 3) ++ ((Builtin.zeroCells z.cells (n + 1 - i)).toList ++ (Builtin.zeroCells z.cells (G - (n + 1))).toList) := by
      rw [hROW]
      simp
    rw [e, List.take_append_of_le_length (by rw [List.length_take, hxl]; omega), List.take_take, Nat.min_self]
  obtain ⟨q1, q2, q3⟩ := grow_list (vs := [v0, v1, v2]) rfl (by rw [Array.length_toList]; exact hRs) hRt hxl hi hG
  obtain ⟨N, hN⟩ : ∃ N, N = w.heap.size := ⟨_, rfl⟩
  have hgN : g ≠ N := by have := hg.lt; omega
  have hVN : V ≠ N := by have := hV.lt; omega
  obtain ⟨W1, hW1⟩ : ∃ W1, W1 = w.drew.alloc (.cells ROW 47) := ⟨_, rfl⟩
  have hbN : Blk W1 N 47 ROW := by rw [hW1, hN]; exact Blk.new w.drew _ _
  have hbg : Blk W1 g 47 cur := by rw [hW1]; exact hg.drew.alloc _
  have hbV : Blk W1 V tv #[v0, v1, v2] := by rw [hW1]; exact hV.drew.alloc _
  have hT1 : Step (fun k => k = g) w W1 := by rw [hW1]; exact Step.refl.drew.alloc _
  rw [← hW1, ← hN] at hrz
  rw [← hN]
  have hs2 := slice_ln (P := Try.prog) E_pc (some ⟨N, 0, none⟩) (n + 1) G .i64 (i : Int) i (n + 1 - i) (G - i) rfl (by omega) rfl rfl
  rw [cutA_some (show ¬ G = i by omega)] at hs2
  have hs3 := slice_ln (P := Try.prog) E_pc (some ⟨N, 0, none⟩) (n + 1) G .i64 ((i : Int) + 1) (i + 1) (n - i) (G - (i + 1)) (by omega) (by omega) (by omega) rfl
  rw [cutA_some (show ¬ G = i + 1 by omega)] at hs3
  have hcp1 : ∀ ty, (Builtin.copy_ #[34, 34] ty #[.slice (some ⟨N, i * 3, none⟩) (n + 1 - i) (G - i), .slice (some ⟨V, 0, none⟩) 1 1]).run Try.prog W1 = _ := fun ty =>
    run_copyN W1 34 34 ty 47 3 N (i * 3) (n + 1 - i) (G - i) ⟨V, 0, none⟩ 1 1 ROW 47 [v0, v1, v2] 1 Try.underlying34 pc_size hbN
      (by simp only [Nat.min_def]; split <;> omega) rfl (fun j v hj => by rw [Addr.add_lit, Nat.zero_add, hbV.cell j]; rw [← hj]; simp) (by rw [hRs]; simp; omega) h1
  obtain ⟨C1, hC1⟩ : ∃ C1 : Array Value, C1 = (ROW.toList.take (i * 3) ++ [v0, v1, v2] ++ ROW.toList.drop (i * 3 + [v0, v1, v2].length)).toArray := ⟨_, rfl⟩
  rw [← hC1] at hcp1
  have hC1s : C1.size = G * 3 := by rw [hC1]; simpa using q1
  have hb1 : Blk (W1.setRow N C1).drew N 47 C1 := (Blk.reset hbN).drew
  have hsrc : ∀ j v, (xs.drop (i * 3))[j]? = some v → (W1.setRow N C1).drew.cell? ((⟨g, i * 3, none⟩ : Addr).add j) = some v := fun j v hj => by
    rw [Addr.add_lit]
    rw [List.getElem?_drop] at hj
    have hbg1 : Blk (W1.setRow N C1).drew g 47 cur := (setRow_other W1 N g C1 hgN).trans hbg
    rw [hbg1.cell, ← hg.cell]
    exact hcell _ _ hj
  have hcp2 : ∀ ty, (Builtin.copy_ #[34, 34] ty #[.slice (some ⟨N, (i + 1) * 3, none⟩) (n - i) (G - (i + 1)), .slice (some ⟨g, i * 3, none⟩) (n - i) (n - i)]).run Try.prog (W1.setRow N C1).drew = _ := fun ty =>
    run_copyN (W1.setRow N C1).drew 34 34 ty 47 3 N ((i + 1) * 3) (n - i) (G - (i + 1)) ⟨g, i * 3, none⟩ (n - i) (n - i) C1 47 (xs.drop (i * 3)) (n - i) Try.underlying34 pc_size hb1
      (by simp only [Nat.min_def]; split <;> omega) hdl hsrc (by rw [hdl, hC1s]; omega) (fun u hu => h1x u (List.mem_of_mem_drop hu))
  obtain ⟨C2, hC2⟩ : ∃ C2 : Array Value, C2 = (C1.toList.take ((i + 1) * 3) ++ xs.drop (i * 3) ++ C1.toList.drop ((i + 1) * 3 + (xs.drop (i * 3)).length)).toArray := ⟨_, rfl⟩
  rw [← hC2] at hcp2
  have hC2s : C2.size = G * 3 := by rw [hC2, hC1]; simpa using q2
  have hC2t : C2.toList.take ((n + 1) * 3) = xs.take (i * 3) ++ [v0, v1, v2] ++ xs.drop (i * 3) := by rw [hC2, hC1]; exact q3
  have HF : Hid (∃ D' c', Value.slice (some ⟨N, 0, none⟩) (n + 1) G = .slice D' (n + 1) c' ∧ ((W1.setRow N C1).drew.setRow N C2).ownsRow B 47 3 (.slice D' (n + 1) c') (n + 1) (xs.take (i * 3) ++ [v0, v1, v2] ++ xs.drop (i * 3)) ∧ Step (fun k => k = g) w ((W1.setRow N C1).drew.setRow N C2) ∧ (blkOf D' = some g ∨ blkOf D' = some N)) :=
    ⟨_, _, rfl, own_mk (by omega) (Blk.reset hb1) (by rw [← hC2t, List.length_take, Array.length_toList, hC2s]; omega) hG hGm hC2s hC2t, (hT1.setRow (g := N) (.inr (by omega)) C1).drew.setRow (.inr (by omega)) C2, .inr rfl⟩
  have hw1 := IntWalk.i64_in ((i : Int) + 1) (by omega)
  have hw2 := IntWalk.i64_in ((n : Int) + 1) (by omega)
  have hw3 := IntWalk.i64_in ((n : Int) + 1 - (i : Int)) (by omega)
  have hne : ((i : Int) == (n : Int)) = false := by simp; omega
  have hni : ¬ (i : Int) = (n : Int) := by omega
  have hgt : (n : Int) < (n : Int) + 1 := by omega
  have hgt' : decide ((n : Int) < (n : Int) + 1) = true := decide_eq_true hgt
  clear q1 q2 q3 hsrc hC1 hC2 hb1 hC1s hC2s hC2t hx h1x hdl hxl hV hg h1 hROW hRs hRt hW1 hbN hbg hbV hT1 hold hcell hGe hN hi0 hz0 hzs hzb hzc hkk hGm
  go_enter Try.func24, Try.ntmps24
  go_wp2_with (at_builtin; first | refine Lib.wpList_append_run _ rfl _ _ _ _ rfl _ _ rfl rfl _ _ (hrz _) ?_ | refine wpList_copy_run _ rfl _ _ 34 34 rfl _ _ rfl rfl (hcp1 _) ?_)
  refine Mix.wp_region_mix [8] [] (Step (fun _ => False) (W1.setRow N C1)) (by kernel_rfl) (by kernel_rfl) Step.refl.drew (fun hcls => ?_)
  refine Mix.wpL_reads 8 (by rfl) ?_
  simp only [List.take_succ_cons, List.drop_succ_cons, List.take_zero, List.drop_zero]
  repeat (go_big_quiet_step (fail))
  refine wpQuiet_nil ?_
  refine Mix.wpL_op (by rfl) (fun K hK => ?_)
  refine step_copy_run rfl _ _ 34 34 rfl _ _ rfl rfl (hcp2 _) ?_
  refine hK _ _ (fun hlt => absurd hlt (by decide)) ?_
  clear hK K
  refine Mix.wpL_end ?_
  go_wp2_with fail
  go_ret
  obtain ⟨D', c', e1, e2, e3, e4⟩ := HF.out
  exact ⟨D', c', by rw [← e1]; rfl, e2, e3, e4⟩

/-- Insert, of one piece, at any place. -/
theorem insert_walk (w : World) (B n c i V : Nat) (D : Option Addr) (xs : List Value) (tv : TypeId) (v0 v1 v2 : Value) (hB : B ≤ w.heap.size) (h : w.ownsRow B 47 3 (.slice D n c) n xs) (hi : i ≤ n) (hn : n ≤ 1000000) (h1x : ∀ u ∈ xs, u.oneCell' = true)
    (hV : Blk w V tv #[v0, v1, v2]) (hVD : blkOf D ≠ some V) (h1 : ∀ u ∈ [v0, v1, v2], u.oneCell' = true) :
    Calls Try.prog 24 #[.slice D n c, .int .i64 (i : Int), .slice (some ⟨V, 0, none⟩) 1 1] w fun e w' => ∃ D' c', e = .returned (.slice D' (n + 1) c') ∧
      w'.ownsRow B 47 3 (.slice D' (n + 1) c') (n + 1) (xs.take (i * 3) ++ [v0, v1, v2] ++ xs.drop (i * 3)) ∧ Step (fun k => blkOf D = some k) w w' ∧ (blkOf D' = blkOf D ∨ blkOf D' = some w.heap.size) := by
  by_cases hin : i = n
  · subst hin
    refine (ins_end w B i c V D xs tv v0 v1 v2 hB h hn hV h1).mono ?_
    rintro e w' ⟨D', c', rfl, hown, hgr, hat⟩
    refine ⟨D', c', rfl, ?_, Step.grown Step.refl hgr (fun k hk => .inl hk), hat⟩
    rw [List.take_of_length_le (by rw [own_len h]; exact Nat.le_refl _), List.drop_of_length_le (by rw [own_len h]; exact Nat.le_refl _), List.append_nil]
    exact hown
  · obtain ⟨g, cur, rfl, hBg, hg, hnc, hcm, hcs, hx⟩ := own_blk h (by omega)
    have hVg : V ≠ g := fun e => hVD (by rw [e]; rfl)
    have hblk : ∀ {w' : World}, Step (fun k => k = g) w w' → Step (fun k => blkOf (some (⟨g, 0, none⟩ : Addr)) = some k) w w' := fun hs => hs.mono fun k _ hk => by rw [hk]; rfl
    by_cases hc : n + 1 ≤ c
    · refine (ins_shift w B n c i g V cur xs tv v0 v1 v2 hg hcs hx (by omega) hc hcm hBg hVg hn h1x hV h1).mono ?_
      rintro e w' ⟨D', c', rfl, hown, hs, hat⟩
      exact ⟨D', c', rfl, hown, hblk hs, hat⟩
    · obtain rfl : c = n := by omega
      refine (ins_grow w B c i g V cur xs tv v0 v1 v2 hg hcs hx (by omega) hB hn h1x hV h1).mono ?_
      rintro e w' ⟨D', c', rfl, hown, hs, hat⟩
      exact ⟨D', c', rfl, hown, hblk hs, hat⟩
end Go.Proofs.Ytjpjobpkeejmcaa
