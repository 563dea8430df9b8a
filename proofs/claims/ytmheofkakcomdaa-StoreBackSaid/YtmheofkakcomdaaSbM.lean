/-
  store: undo of a global's value.
-/
import Derived.Test.YtmheofkakcomdaaSbL
set_option linter.unusedVariables false
set_option linter.unusedSimpArgs false
namespace Go.Proofs.Ytmheofkakcomdaa
open Go.RowKit
section
variable {w : World} {B : Nat} {r : Rc}
set_option maxRecDepth 100000 in
set_option maxHeartbeats 3200000 in
theorem w_undo5 (k o : Nat) (b : UInt8) (h : Ws w B r) (hB : B ≤ w.heap.size) (hk : k < r.vs.length) (hlv : r.vs.length ≤ 1000) :
    Calls Try.prog 49 #[.pointer (some ⟨r.S, 0, none⟩), .agg #[.int .i64 5, .int .i64 (k : Int), .int .u64 (o : Int), .string (str [b])]] w fun e w' => e = .returned (.tuple #[]) ∧ Out w B r { r.vw with vs := r.vs.set k { r.vs[k] with vt := b.toNat, n := o } } w' := by
  obtain ⟨V, hV⟩ : ∃ V, V = w.alloc (.cells #[.int .i64 5, .int .i64 (k : Int), .int .u64 (o : Int), .string (str [b])] 92) := ⟨_, rfl⟩
  have st : Step (fun _ => False) w V := by rw [hV]; exact Step.refl.alloc _
  have HX := Lib.hid (Blk.new w 92 #[.int .i64 5, .int .i64 (k : Int), .int .u64 (o : Int), .string (str [b])])
  rw [← hV] at HX
  have H := Lib.hid (h.quiet st)
  have S1 := Lib.hid st
  have hBV := Nat.le_trans hB st.size
  have HBV := Lib.hid hBV
  obtain ⟨X, hX⟩ : ∃ X, X = w.heap.size := ⟨_, rfl⟩
  rw [← hX] at HX
  have hv := h.vrow
  obtain ⟨ga, hAs, _, hgl, _, _⟩ := own_row hv (by omega)
  clear hv
  clear h st hB hBV
  go_enter Try.func49, Try.ntmps49
  go_upto_region 11 with fail
  rw [← hV, ← hX]
  clear hV hX
  have x3 := H.out.c3v
  rw [hAs] at x3
  have dS := cls_cell (F := fun _ => False) x3 id
  have y1 := HX.out.cell 1
  simp at y1
  have d1 := cls_cell (F := fun _ => False) y1 id
  have y2 := HX.out.cell 2
  simp at y2
  have d2 := cls_cell (F := fun _ => False) y2 id
  have y3 := HX.out.cell 3
  simp at y3
  have d3 := cls_cell (F := fun _ => False) y3 id
  clear x3 y1 y2 y3
  have hp := (H.out.quiet Step.refl.drew).setv (k := k) (vt := b.toNat) (n := o) hk hAs
  have HP := Lib.hid hp
  have ho := H.out.vrow
  rw [hAs] at ho
  obtain ⟨g', e', _, _, hcell, hfro⟩ := own_row ho (by omega)
  injection e' with e'
  injection e' with e'
  subst e'
  have b2 := hcell (k * 6 + 2) _ (by rw [vrs, flat_get Vr.cells 6 Vr.six _ _ 2 hk (by decide)]; rfl)
  have b3 := hcell (k * 6 + 3) _ (by rw [vrs, flat_get Vr.cells 6 Vr.six _ _ 3 hk (by decide)]; rfl)
  have bf2 := hfro (k * 6 + 2)
  have bf3 := hfro (k * 6 + 3)
  have g1 : (k : Int) < (r.vs.length : Int) := by omega
  have g0 : (0 : Int) ≤ (k : Int) := by omega
  have hix : ∀ W : World, (Instr.index 9 (.string (str [b])) (.int .i64 0)).run Try.prog W = .ok (.int .u8 (b.toNat : Int)) W := fun W => index_strn Try.underlying9 [b] 0 0 rfl (by simp) W
  clear ho hcell hfro hp
  refine Mix.wp_region_mix [14] [] (Step (fun _ => False) V) (by kernel_rfl) (by kernel_rfl) (Step.refl.drew) (fun hcls => ?_)
  refine Mix.wpL_reads 14 (by rfl) ?_
  simp only [List.take_succ_cons, List.drop_succ_cons, List.take_zero, List.drop_zero]
  repeat (go_big_quiet_step (fail))
  refine wpQuiet_nil ?_
  refine Mix.wpL_op (by rfl) (fun K hK => ?_)
  go_simp
  refine hK _ _ (fun hlt => absurd hlt (by decide)) ?_
  clear hK K
  refine Mix.wpL_end ?_
  go_wp2_with fail
  go_end0
  exact ⟨rfl, _, HP.out.1, Upd.after (S1.out.trans Step.refl.drew) HP.out.2, rfl, rfl⟩
end
end Go.Proofs.Ytmheofkakcomdaa
