/-
  store: undo of each kind of entry.
-/
import Derived.Test.YtmheofkakcomdaaSbK
import Derived.Test.YtmheofkakcomdaaSy
set_option linter.unusedVariables false
set_option linter.unusedSimpArgs false
namespace Go.Proofs.Ytmheofkakcomdaa
open Go.RowKit
theorem flat_tk {α : Type} (c : α → List Value) (m : Nat) (hc : ∀ a, (c a).length = m) (l : List α) (k : Nat) : (l.take k).flatMap c = (l.flatMap c).take (k * m) := by
  induction l generalizing k with
  | nil => simp
  | cons f l ih =>
    cases k with
    | zero => simp
    | succ k =>
      rw [List.take_succ_cons, List.flatMap_cons, List.flatMap_cons, ih, show (k + 1) * m = (c f).length + k * m by rw [hc, Nat.add_mul]; omega, List.take_length_add_append]
/-- What need not shrink. -/
theorem m_shrink_no {w : World} {B M n c : Nat} {A : Option Addr} {most : Int} {l : List UInt8} (k : Nat) (h : Mm w B M A n c most l) (p : Nat) (hp : n = p * 65536) (hk : p ≤ k) (hk2 : k ≤ 1000000) : Calls Try.prog 65 #[.pointer (some ⟨M, 0, none⟩), .int .i64 (k : Int)] w fun e w' => e = .returned (.tuple #[]) ∧ w' = w := by
  have HP := Lib.hid (m_pages h p hp)
  have i0 : (0 : Int) ≤ (k : Int) := by omega
  have i1 : ¬ (k : Int) < (p : Int) := by omega
  clear h hp hk hk2
  go_enter Try.func65, Try.ntmps65
  go_wp2_with fail
  refine HP.out.mono ?_
  rintro e w2 ⟨rfl, rfl⟩
  go_wp2_with fail
  go_end0
  exact ⟨rfl, rfl⟩
theorem t_cut_no {w : World} {B T n c : Nat} {A : Option Addr} {most : Int} {l : List Int} (k : Nat) (h : Tb w B T A n c most l) (hk : n ≤ k) : Calls Try.prog 67 #[.pointer (some ⟨T, 0, none⟩), .int .i64 (k : Int)] w fun e w' => e = .returned (.tuple #[]) ∧ w' = w := by
  have x0 := (h.blk.cell 0).trans (show _ = some (Value.slice A n c) from rfl)
  have i0 : (0 : Int) ≤ (k : Int) := by omega
  have i1 : ¬ (k : Int) < (n : Int) := by omega
  clear h hk
  go_enter Try.func67, Try.ntmps67
  go_wp2_with fail
  go_end0
  exact ⟨rfl, rfl⟩
section
variable {w : World} {B : Nat} {r : Rc}
theorem m_shrink_any (k p : Nat) (h : Ws w B r) (hB : B ≤ w.heap.size) (hp : r.l.length = p * 65536) (hk : k ≤ p) : Calls Try.prog 65 #[.pointer (some ⟨r.M, 0, none⟩), .int .i64 (k : Int)] w fun e w' => e = .returned (.tuple #[]) ∧ Out w B r { r.vw with l := r.l.take (k * 65536) } w' := by
  have hsm := h.mm.small
  rw [h.mm.len] at hsm
  rcases Nat.lt_or_ge k p with h1 | h1
  · refine (m_shrink k h.mm hB p (by rw [h.mm.len]; exact hp) h1).mono ?_
    rintro e w' ⟨rfl, A', c', hm, hu⟩
    have hh := h.mem hm hu
    exact ⟨rfl, _, hh.1, hh.2, rfl, rfl⟩
  · refine (m_shrink_no k h.mm p (by rw [h.mm.len]; exact hp) h1 (by omega)).mono ?_
    rintro e w' ⟨rfl, rfl⟩
    rw [List.take_of_length_le (by rw [hp]; exact Nat.mul_le_mul_right _ h1)]
    exact ⟨rfl, Out.refl h⟩
theorem t_cut_any (k : Nat) (h : Ws w B r) (hB : B ≤ w.heap.size) : Calls Try.prog 67 #[.pointer (some ⟨r.T, 0, none⟩), .int .i64 (k : Int)] w fun e w' => e = .returned (.tuple #[]) ∧ Out w B r { r.vw with lt := r.lt.take k } w' := by
  rcases Nat.lt_or_ge k r.nt with h1 | h1
  · refine (t_cut k h.tb hB h1).mono ?_
    rintro e w' ⟨rfl, A', c', hm, hu⟩
    have hh := h.tab hm hu
    exact ⟨rfl, _, hh.1, hh.2, rfl, rfl⟩
  · refine (t_cut_no k h.tb h1).mono ?_
    rintro e w' ⟨rfl, rfl⟩
    rw [List.take_of_length_le (by rw [← h.tb.len]; exact h1)]
    exact ⟨rfl, Out.refl h⟩
set_option maxRecDepth 100000 in
set_option maxHeartbeats 3200000 in
theorem w_undo1 (a : Nat) (o : Int) (d : List UInt8) (h : Ws w B r) (hB : B ≤ w.heap.size) (hak : a + d.length ≤ r.l.length) :
    Calls Try.prog 49 #[.pointer (some ⟨r.S, 0, none⟩), .agg #[.int .i64 1, .int .i64 (a : Int), .int .u64 o, .string (str d)]] w fun e w' => e = .returned (.tuple #[]) ∧ Out w B r { r.vw with l := r.l.take a ++ d ++ r.l.drop (a + d.length) } w' := by
  obtain ⟨V, hV⟩ : ∃ V, V = w.alloc (.cells #[.int .i64 1, .int .i64 (a : Int), .int .u64 o, .string (str d)] 92) := ⟨_, rfl⟩
  have st : Step (fun _ => False) w V := by rw [hV]; exact Step.refl.alloc _
  have HX := Lib.hid (Blk.new w 92 #[.int .i64 1, .int .i64 (a : Int), .int .u64 o, .string (str d)])
  rw [← hV] at HX
  have H := Lib.hid (h.quiet st)
  have S1 := Lib.hid st
  have hBV := Nat.le_trans hB st.size
  have HBV := Lib.hid hBV
  obtain ⟨X, hX⟩ : ∃ X, X = w.heap.size := ⟨_, rfl⟩
  rw [← hX] at HX
  have hsm := h.mm.small
  rw [h.mm.len] at hsm
  have wa : IntKind.u64.wrap (a : Int) = (a : Int) := by rw [Go.IntKind.wrap_u64]; omega
  have HK : Hid (a + d.length ≤ r.n) := by rw [Hid, h.mm.len]; exact hak
  clear hsm hak
  clear h st hB hBV
  go_enter Try.func49, Try.ntmps49
  go_upto_region 3 with fail
  rw [← hV, ← hX]
  clear hV hX
  have x0 := H.out.c0
  have dS := cls_cell (F := fun _ => False) x0 id
  have y1 := HX.out.cell 1
  simp at y1
  have d1 := cls_cell (F := fun _ => False) y1 id
  have y3 := HX.out.cell 3
  simp at y3
  have d3 := cls_cell (F := fun _ => False) y3 id
  clear x0 y1 y3
  refine Mix.wp_region_mix [9, 10] [9] (Step (fun _ => False) V) (by kernel_rfl) (by kernel_rfl) (Step.refl.drew) (fun hcls => ?_)
  refine Mix.wpL_reads 9 (by rfl) ?_
  simp only [List.take_succ_cons, List.drop_succ_cons, List.take_zero, List.drop_zero]
  repeat (go_big_quiet_step (fail))
  refine wpQuiet_nil ?_
  clear dS d1 d3
  obtain ⟨w1, cap, hcv, hrd, hs1⟩ := conv_str V.drew d
  have HRd := Lib.hid hrd
  have HS1 := Lib.hid hs1
  clear hrd hs1
  refine Mix.wpL_op (by rfl) (fun K hK => ?_)
  go_simp
  refine hK _ _ (fun hlt => Mix.cl (Step.refl.drew.trans HS1.out)) ?_
  clear hK K
  clear hcv
  have H2 := Lib.hid (H.out.quiet (Step.refl.drew.trans HS1.out))
  have HW := Lib.hid (mwrite_ok w1 B r.M r.A r.n r.c r.most r.l d a d.length cap _ _ H2.out.mm HRd.out rfl HK.out)
  refine Mix.wpL_op (by rfl) (fun K hK => ?_)
  go_simp
  refine HW.out.mono ?_
  rintro e w3 ⟨rfl, hM, hSt⟩
  have HM := Lib.hid hM
  have HSt := Lib.hid hSt
  refine hK _ _ (fun hlt => absurd hlt (by decide)) ?_
  clear hK K
  clear hM hSt HW
  refine Mix.wpL_end ?_
  go_wp2_with fail
  go_end0
  have hh := H2.out.mem HM.out ⟨HSt.out.mono fun _ _ e => .inr e, fun _ hk => .inl hk⟩
  exact ⟨rfl, _, hh.1, Upd.after (S1.out.trans (Step.refl.drew.trans HS1.out)) hh.2, rfl, rfl⟩
set_option maxRecDepth 100000 in
set_option maxHeartbeats 3200000 in
theorem w_undo2 (k p : Nat) (hp : r.l.length = p * 65536) (hk : k ≤ p) (o : Int) (b : ByteArray) (h : Ws w B r) (hB : B ≤ w.heap.size) :
    Calls Try.prog 49 #[.pointer (some ⟨r.S, 0, none⟩), .agg #[.int .i64 2, .int .i64 (k : Int), .int .u64 o, .string b]] w fun e w' => e = .returned (.tuple #[]) ∧ Out w B r { r.vw with l := r.l.take (k * 65536) } w' := by
  obtain ⟨V, hV⟩ : ∃ V, V = w.alloc (.cells #[.int .i64 2, .int .i64 (k : Int), .int .u64 o, .string b] 92) := ⟨_, rfl⟩
  have st : Step (fun _ => False) w V := by rw [hV]; exact Step.refl.alloc _
  have HX := Lib.hid (Blk.new w 92 #[.int .i64 2, .int .i64 (k : Int), .int .u64 o, .string b])
  rw [← hV] at HX
  have H := Lib.hid (h.quiet st)
  have S1 := Lib.hid st
  have hBV := Nat.le_trans hB st.size
  have HBV := Lib.hid hBV
  obtain ⟨X, hX⟩ : ∃ X, X = w.heap.size := ⟨_, rfl⟩
  rw [← hX] at HX
  clear h st hB hBV
  go_enter Try.func49, Try.ntmps49
  go_upto_region 5 with fail
  rw [← hV, ← hX]
  clear hV hX
  have x0 := H.out.c0
  have dS := cls_cell (F := fun _ => False) x0 id
  have y1 := HX.out.cell 1
  simp at y1
  have d1 := cls_cell (F := fun _ => False) y1 id
  clear x0 y1
  have HC := Lib.hid (m_shrink_any k p (H.out.quiet Step.refl.drew) HBV.out hp hk)
  refine Mix.wp_region_mix [6] [] (Step (fun _ => False) V) (by kernel_rfl) (by kernel_rfl) (Step.refl.drew) (fun hcls => ?_)
  refine Mix.wpL_reads 6 (by rfl) ?_
  simp only [List.take_succ_cons, List.drop_succ_cons, List.take_zero, List.drop_zero]
  repeat (go_big_quiet_step (fail))
  refine wpQuiet_nil ?_
  refine Mix.wpL_op (by rfl) (fun K hK => ?_)
  go_simp
  refine HC.out.mono ?_
  rintro e w3 ⟨rfl, ho⟩
  have HO := Lib.hid ho
  refine hK _ _ (fun hlt => absurd hlt (by decide)) ?_
  clear hK K
  clear ho HC
  refine Mix.wpL_end ?_
  go_wp2_with fail
  go_end0
  exact ⟨rfl, Out.after (S1.out.trans Step.refl.drew) HO.out⟩
set_option maxRecDepth 100000 in
set_option maxHeartbeats 3200000 in
theorem w_undo4 (k : Nat) (o : Int) (b : ByteArray) (h : Ws w B r) (hB : B ≤ w.heap.size) :
    Calls Try.prog 49 #[.pointer (some ⟨r.S, 0, none⟩), .agg #[.int .i64 4, .int .i64 (k : Int), .int .u64 o, .string b]] w fun e w' => e = .returned (.tuple #[]) ∧ Out w B r { r.vw with lt := r.lt.take k } w' := by
  obtain ⟨V, hV⟩ : ∃ V, V = w.alloc (.cells #[.int .i64 4, .int .i64 (k : Int), .int .u64 o, .string b] 92) := ⟨_, rfl⟩
  have st : Step (fun _ => False) w V := by rw [hV]; exact Step.refl.alloc _
  have HX := Lib.hid (Blk.new w 92 #[.int .i64 4, .int .i64 (k : Int), .int .u64 o, .string b])
  rw [← hV] at HX
  have H := Lib.hid (h.quiet st)
  have S1 := Lib.hid st
  have hBV := Nat.le_trans hB st.size
  have HBV := Lib.hid hBV
  obtain ⟨X, hX⟩ : ∃ X, X = w.heap.size := ⟨_, rfl⟩
  rw [← hX] at HX
  clear h st hB hBV
  go_enter Try.func49, Try.ntmps49
  go_upto_region 9 with fail
  rw [← hV, ← hX]
  clear hV hX
  have x1 := H.out.c1
  have dS := cls_cell (F := fun _ => False) x1 id
  have y1 := HX.out.cell 1
  simp at y1
  have d1 := cls_cell (F := fun _ => False) y1 id
  clear x1 y1
  have HC := Lib.hid (t_cut_any k (H.out.quiet Step.refl.drew) HBV.out)
  refine Mix.wp_region_mix [6] [] (Step (fun _ => False) V) (by kernel_rfl) (by kernel_rfl) (Step.refl.drew) (fun hcls => ?_)
  refine Mix.wpL_reads 6 (by rfl) ?_
  simp only [List.take_succ_cons, List.drop_succ_cons, List.take_zero, List.drop_zero]
  repeat (go_big_quiet_step (fail))
  refine wpQuiet_nil ?_
  refine Mix.wpL_op (by rfl) (fun K hK => ?_)
  go_simp
  refine HC.out.mono ?_
  rintro e w3 ⟨rfl, ho⟩
  have HO := Lib.hid ho
  refine hK _ _ (fun hlt => absurd hlt (by decide)) ?_
  clear hK K
  clear ho HC
  refine Mix.wpL_end ?_
  go_wp2_with fail
  go_end0
  exact ⟨rfl, Out.after (S1.out.trans Step.refl.drew) HO.out⟩
set_option maxRecDepth 100000 in
set_option maxHeartbeats 3200000 in
theorem w_undo3 (i : Nat) (o x y : Int) (b : ByteArray) (h : Ws w B r) (hB : B ≤ w.heap.size) (hy : r.lt[i]? = some y) (hx : -1 ≤ x) (ho : wrap64 (wrap64 o - 1) = x) :
    Calls Try.prog 49 #[.pointer (some ⟨r.S, 0, none⟩), .agg #[.int .i64 3, .int .i64 (i : Int), .int .u64 o, .string b]] w fun e w' => e = .returned (.tuple #[]) ∧ Out w B r { r.vw with lt := r.lt.set i x } w' := by
  obtain ⟨V, hV⟩ : ∃ V, V = w.alloc (.cells #[.int .i64 3, .int .i64 (i : Int), .int .u64 o, .string b] 92) := ⟨_, rfl⟩
  have st : Step (fun _ => False) w V := by rw [hV]; exact Step.refl.alloc _
  have HX := Lib.hid (Blk.new w 92 #[.int .i64 3, .int .i64 (i : Int), .int .u64 o, .string b])
  rw [← hV] at HX
  have H := Lib.hid (h.quiet st)
  have S1 := Lib.hid st
  have hBV := Nat.le_trans hB st.size
  have HBV := Lib.hid hBV
  obtain ⟨X, hX⟩ : ∃ X, X = w.heap.size := ⟨_, rfl⟩
  rw [← hX] at HX
  clear h st hB hBV
  go_enter Try.func49, Try.ntmps49
  go_upto_region 7 with fail
  rw [← hV, ← hX]
  clear hV hX
  have x1 := H.out.c1
  have dS := cls_cell (F := fun _ => False) x1 id
  have y1 := HX.out.cell 1
  simp at y1
  have d1 := cls_cell (F := fun _ => False) y1 id
  have y2 := HX.out.cell 2
  simp at y2
  have d2 := cls_cell (F := fun _ => False) y2 id
  clear x1 y1 y2
  have hi : i < r.nt := by rw [H.out.tb.len]; exact (List.getElem?_eq_some_iff.1 hy).1
  have HC := Lib.hid (tset_ok V.drew B r.T r.At r.nt r.ct r.mt r.lt i x (H.out.quiet Step.refl.drew).tb hi hx)
  replace hy := Lib.hid hy
  refine Mix.wp_region_mix [10] [] (Step (fun _ => False) V) (by kernel_rfl) (by kernel_rfl) (Step.refl.drew) (fun hcls => ?_)
  refine Mix.wpL_reads 10 (by rfl) ?_
  simp only [List.take_succ_cons, List.drop_succ_cons, List.take_zero, List.drop_zero]
  repeat (go_big_quiet_step (fail))
  refine wpQuiet_nil ?_
  refine Mix.wpL_op (by rfl) (fun K hK => ?_)
  go_simp
  refine HC.out.mono ?_
  rintro e w3 ⟨rfl, ht, hs⟩
  have HT := Lib.hid ht
  have HS := Lib.hid hs
  refine hK _ _ (fun hlt => absurd hlt (by decide)) ?_
  clear hK K
  clear ht hs HC
  refine Mix.wpL_end ?_
  go_wp2_with fail
  go_end0
  have hh := (H.out.quiet Step.refl.drew).tab HT.out ⟨HS.out.mono fun _ _ e => .inr e, fun _ hk => .inl hk⟩
  exact ⟨rfl, _, hh.1, Upd.after (S1.out.trans Step.refl.drew) hh.2, rfl, rfl⟩
set_option maxRecDepth 100000 in
set_option maxHeartbeats 3200000 in
theorem w_undo6 (k : Nat) (o : Int) (b : ByteArray) (h : Ws w B r) (hB : B ≤ w.heap.size) (hk : k < r.nf) :
    Calls Try.prog 49 #[.pointer (some ⟨r.S, 0, none⟩), .agg #[.int .i64 6, .int .i64 (k : Int), .int .u64 o, .string b]] w fun e w' => e = .returned (.tuple #[]) ∧ Out w B r { r.vw with fs := r.vw.fs.take k, cells := r.cells.take k } w' := by
  obtain ⟨V, hV⟩ : ∃ V, V = w.alloc (.cells #[.int .i64 6, .int .i64 (k : Int), .int .u64 o, .string b] 92) := ⟨_, rfl⟩
  have st : Step (fun _ => False) w V := by rw [hV]; exact Step.refl.alloc _
  have HX := Lib.hid (Blk.new w 92 #[.int .i64 6, .int .i64 (k : Int), .int .u64 o, .string b])
  rw [← hV] at HX
  have H := Lib.hid (h.quiet st)
  have S1 := Lib.hid st
  have hBV := Nat.le_trans hB st.size
  have HBV := Lib.hid hBV
  obtain ⟨X, hX⟩ : ∃ X, X = w.heap.size := ⟨_, rfl⟩
  rw [← hX] at HX
  clear h st hB hBV
  go_enter Try.func49, Try.ntmps49
  go_upto_region 13 with fail
  rw [← hV, ← hX]
  clear hV hX
  have x2 := H.out.c2
  have dS := cls_cell (F := fun _ => False) x2 id
  have y1 := HX.out.cell 1
  simp at y1
  have d1 := cls_cell (F := fun _ => False) y1 id
  clear x2 y1
  have HC := Lib.hid (f_cut k (H.out.quiet Step.refl.drew).fn hk)
  refine Mix.wp_region_mix [6] [] (Step (fun _ => False) V) (by kernel_rfl) (by kernel_rfl) (Step.refl.drew) (fun hcls => ?_)
  refine Mix.wpL_reads 6 (by rfl) ?_
  simp only [List.take_succ_cons, List.drop_succ_cons, List.take_zero, List.drop_zero]
  repeat (go_big_quiet_step (fail))
  refine wpQuiet_nil ?_
  refine Mix.wpL_op (by rfl) (fun K hK => ?_)
  go_simp
  refine HC.out.mono ?_
  rintro e w3 ⟨rfl, hF, hu⟩
  have HF := Lib.hid hF
  have HU := Lib.hid hu
  refine hK _ _ (fun hlt => absurd hlt (by decide)) ?_
  clear hK K
  clear hF hu HC
  refine Mix.wpL_end ?_
  go_wp2_with fail
  go_end0
  have hh := (H.out.quiet Step.refl.drew).fun_ HF.out HU.out
  exact ⟨rfl, _, hh.1, Upd.after (S1.out.trans Step.refl.drew) hh.2, rfl, by
    have e1 : (r.fs.take k).map (Option.map Fv.cs) = r.vw.fs.take k := List.map_take
    rw [← e1]
    rfl⟩
set_option maxRecDepth 100000 in
set_option maxHeartbeats 3200000 in
theorem w_undo9 (k t : Nat) (o : Int) (b : ByteArray) (f g : Fv) (p q : ByteArray) (x : Int) (h : Ws w B r) (hB : B ≤ w.heap.size) (hk : r.fs[k]? = some (some f)) (ht : r.fs[t]? = some (some g)) (hf : f.cs[0]? = some (.string p) ∧ f.cs[1]? = some (.string q)) (hg : g.cs[0]? = some (.string p) ∧ g.cs[1]? = some (.string q)) (hx : r.cells[k]? = some x) (ho : wrap64 o = (t : Int)) :
    Calls Try.prog 49 #[.pointer (some ⟨r.S, 0, none⟩), .agg #[.int .i64 9, .int .i64 (k : Int), .int .u64 o, .string b]] w fun e w' => e = .returned (.tuple #[]) ∧ Out w B r { r.vw with cells := r.cells.set k (t : Int) } w' := by
  obtain ⟨V, hV⟩ : ∃ V, V = w.alloc (.cells #[.int .i64 9, .int .i64 (k : Int), .int .u64 o, .string b] 92) := ⟨_, rfl⟩
  have st : Step (fun _ => False) w V := by rw [hV]; exact Step.refl.alloc _
  have HX := Lib.hid (Blk.new w 92 #[.int .i64 9, .int .i64 (k : Int), .int .u64 o, .string b])
  rw [← hV] at HX
  have H := Lib.hid (h.quiet st)
  have S1 := Lib.hid st
  have hBV := Nat.le_trans hB st.size
  have HBV := Lib.hid hBV
  obtain ⟨X, hX⟩ : ∃ X, X = w.heap.size := ⟨_, rfl⟩
  rw [← hX] at HX
  have HC := Lib.hid (f_swap_ok k t f g p q x (H.out.quiet Step.refl.drew).fn hk ht hf hg hx)
  clear hk ht hf hg hx
  clear h st hB hBV
  go_enter Try.func49, Try.ntmps49
  go_upto_region 19 with fail
  rw [← hV, ← hX]
  clear hV hX
  have x2 := H.out.c2
  have dS := cls_cell (F := fun _ => False) x2 id
  have y1 := HX.out.cell 1
  simp at y1
  have d1 := cls_cell (F := fun _ => False) y1 id
  have y2 := HX.out.cell 2
  simp at y2
  have d2 := cls_cell (F := fun _ => False) y2 id
  clear x2 y1 y2
  refine Mix.wp_region_mix [9] [] (Step (fun _ => False) V) (by kernel_rfl) (by kernel_rfl) (Step.refl.drew) (fun hcls => ?_)
  refine Mix.wpL_reads 9 (by rfl) ?_
  simp only [List.take_succ_cons, List.drop_succ_cons, List.take_zero, List.drop_zero]
  repeat (go_big_quiet_step (fail))
  refine wpQuiet_nil ?_
  refine Mix.wpL_op (by rfl) (fun K hK => ?_)
  go_simp
  refine HC.out.mono ?_
  rintro e w3 ⟨rfl, hF, hu⟩
  have HF := Lib.hid hF
  have HU := Lib.hid hu
  refine hK _ _ (fun hlt => absurd hlt (by decide)) ?_
  clear hK K
  clear hF hu HC
  refine Mix.wpL_end ?_
  go_wp2_with fail
  go_end0
  have hh := (H.out.quiet Step.refl.drew).fun_ HF.out ⟨HU.out.mono fun _ _ e => .inr (.inr (.inl e)), fun _ hk => .inl hk⟩
  exact ⟨rfl, _, hh.1, Upd.after (S1.out.trans Step.refl.drew) hh.2, rfl, rfl⟩
set_option maxRecDepth 100000 in
set_option maxHeartbeats 3200000 in
theorem w_undo8 (i o : Int) (b : ByteArray) (h : Ws w B r) (hB : B ≤ w.heap.size) (hi : (Lit.int .i64 i).wf = true) :
    Calls Try.prog 49 #[.pointer (some ⟨r.S, 0, none⟩), .agg #[.int .i64 8, .int .i64 i, .int .u64 o, .string b]] w fun e w' => e = .returned (.tuple #[]) ∧ Out w B r { r.vw with f := delI r.f i } w' := by
  obtain ⟨V, hV⟩ : ∃ V, V = w.alloc (.cells #[.int .i64 8, .int .i64 i, .int .u64 o, .string b] 92) := ⟨_, rfl⟩
  have st : Step (fun _ => False) w V := by rw [hV]; exact Step.refl.alloc _
  have HX := Lib.hid (Blk.new w 92 #[.int .i64 8, .int .i64 i, .int .u64 o, .string b])
  rw [← hV] at HX
  have H := Lib.hid (h.quiet st)
  have S1 := Lib.hid st
  have hBV := Nat.le_trans hB st.size
  have HBV := Lib.hid hBV
  obtain ⟨X, hX⟩ : ∃ X, X = w.heap.size := ⟨_, rfl⟩
  rw [← hX] at HX
  clear h st hB hBV
  go_enter Try.func49, Try.ntmps49
  go_upto_region 17 with fail
  rw [← hV, ← hX]
  clear hV hX
  have x4 := H.out.c4
  have dS := cls_cell (F := fun _ => False) x4 id
  have y1 := HX.out.cell 1
  simp at y1
  have d1 := cls_cell (F := fun _ => False) y1 id
  clear x4 y1
  obtain ⟨w2, hdel, hmp, hs2⟩ := (H.out.quiet Step.refl.drew).mp.del Try.underlying3 Try.underlying76 i hi 0
  have HM := Lib.hid hmp
  have HS := Lib.hid hs2
  clear hmp hs2
  refine Mix.wp_region_mix [6] [] (Step (fun _ => False) V) (by kernel_rfl) (by kernel_rfl) (Step.refl.drew) (fun hcls => ?_)
  refine Mix.wpL_reads 6 (by rfl) ?_
  simp only [List.take_succ_cons, List.drop_succ_cons, List.take_zero, List.drop_zero]
  repeat (go_big_quiet_step (fail))
  refine wpQuiet_nil ?_
  refine Mix.wpL_op (by rfl) (fun K hK => ?_)
  go_simp
  refine hK _ _ (fun hlt => absurd hlt (by decide)) ?_
  clear hK K
  clear hdel
  refine Mix.wpL_end ?_
  go_wp2_with fail
  go_end0
  have hh := (H.out.quiet Step.refl.drew).map_ HM.out HS.out
  exact ⟨rfl, _, hh.1, Upd.after (S1.out.trans Step.refl.drew) hh.2, rfl, rfl⟩
set_option maxRecDepth 100000 in
set_option maxHeartbeats 3200000 in
theorem w_undo7 (k : Nat) (o : Int) (b : ByteArray) (h : Ws w B r) (hB : B ≤ w.heap.size) (hk : k ≤ r.nv) :
    Calls Try.prog 49 #[.pointer (some ⟨r.S, 0, none⟩), .agg #[.int .i64 7, .int .i64 (k : Int), .int .u64 o, .string b]] w fun e w' => e = .returned (.tuple #[]) ∧ Out w B r { r.vw with vs := r.vs.take k } w' := by
  obtain ⟨V, hV⟩ : ∃ V, V = w.alloc (.cells #[.int .i64 7, .int .i64 (k : Int), .int .u64 o, .string b] 92) := ⟨_, rfl⟩
  have st : Step (fun _ => False) w V := by rw [hV]; exact Step.refl.alloc _
  have HX := Lib.hid (Blk.new w 92 #[.int .i64 7, .int .i64 (k : Int), .int .u64 o, .string b])
  rw [← hV] at HX
  have H := Lib.hid (h.quiet st)
  have S1 := Lib.hid st
  have hBV := Nat.le_trans hB st.size
  have HBV := Lib.hid hBV
  obtain ⟨X, hX⟩ : ∃ X, X = w.heap.size := ⟨_, rfl⟩
  rw [← hX] at HX
  have sl := slice_hn E_vr r.Av r.nv r.cv .i64 (k : Int) k rfl (by have := own_cap h.vr; omega)
  clear h st hB hBV
  go_enter Try.func49, Try.ntmps49
  go_upto_region 15 with fail
  rw [← hV, ← hX]
  clear hV hX
  have x3 := H.out.c3
  have dS := cls_cell (F := fun _ => False) x3 id
  have y1 := HX.out.cell 1
  simp at y1
  have d1 := cls_cell (F := fun _ => False) y1 id
  clear x3 y1
  have H2 := H.out.quiet Step.refl.drew
  have hsd : Step (fun j => j = r.S) V.drew (V.drew.setCell ⟨r.S, 3, none⟩ (.slice r.Av k r.cv)) := Step.setCell (F := fun j => j = r.S) (p := ⟨r.S, 3, none⟩) Step.refl (.inl rfl) _
  have o1 := own_take (own_step H2.vr hsd (fun j hj e => H2.na H2.blk (by decide) (by rw [← e]; rwa [ownBlock_slice] at hj))) hk
  have e2 : (vrs r.vs).take (k * 6) = vrs (r.vs.take k) := (flat_tk Vr.cells 6 Vr.six r.vs k).symm
  rw [e2] at o1
  have hh := H2.var_ (by simpa using H2.blk.set_ 3 (.slice r.Av k r.cv)) o1 (by rw [List.length_take, ← H2.vl]; omega) ⟨hsd.mono fun _ _ e => .inl e, fun _ hk => .inl hk⟩
  have HH := Lib.hid hh
  have f3 := H2.blk.frozen 3
  have x3 := H2.c3
  clear H2 hsd o1 e2 hh
  refine Mix.wp_region_mix [10] [] (Step (fun _ => False) V) (by kernel_rfl) (by kernel_rfl) (Step.refl.drew) (fun hcls => ?_)
  refine Mix.wpL_reads 10 (by rfl) ?_
  simp only [List.take_succ_cons, List.drop_succ_cons, List.take_zero, List.drop_zero]
  repeat (go_big_quiet_step (fail))
  refine wpQuiet_nil ?_
  refine Mix.wpL_op (by rfl) (fun K hK => ?_)
  go_simp
  refine hK _ _ (fun hlt => absurd hlt (by decide)) ?_
  clear hK K
  refine Mix.wpL_end ?_
  go_wp2_with fail
  go_end0
  exact ⟨rfl, _, HH.out.1, Upd.after (S1.out.trans Step.refl.drew) HH.out.2, rfl, rfl⟩
end
end Go.Proofs.Ytmheofkakcomdaa
