/-
  frames.Stacks: Open, Shut.
-/
import Derived.Test.YtokchoocelmdoaaFpC
set_option linter.unusedVariables false
set_option linter.unusedSimpArgs false
namespace Go.Proofs.Ytokchoocelmdoaa
open Go.RowKit

theorem lb_one (a b c d : Int) (u : Bool) : ∀ v ∈ #[Value.int .i64 a, .int .i64 b, .int .i64 c, .int .i64 d, .bool u].toList, v.oneCell' = true := by
  intro v hv
  simp at hv
  rcases hv with rfl | rfl | rfl | rfl | rfl <;> rfl
theorem lb_new {W : World} {N : Nat} {t : TypeId} {a b c d e x y z u v : Value} (h : Blk W N t #[a, b, c, d, e]) :
    Blk (((((W.setCell ⟨N, 0, none⟩ x).setCell ⟨N, 1, none⟩ y).setCell ⟨N, 2, none⟩ z).setCell ⟨N, 3, none⟩ u).setCell ⟨N, 4, none⟩ v) N t #[x, y, z, u, v] := by
  have := ((((h.set_ 0 x).set_ 1 y).set_ 2 z).set_ 3 u).set_ 4 v
  simpa using this
theorem lb_step {F : Nat → Prop} {w W : World} {N : Nat} {x y z u v : Value} (h : Step F w W) (hN : F N ∨ w.heap.size ≤ N) :
    Step F w (((((W.setCell ⟨N, 0, none⟩ x).setCell ⟨N, 1, none⟩ y).setCell ⟨N, 2, none⟩ z).setCell ⟨N, 3, none⟩ u).setCell ⟨N, 4, none⟩ v) :=
  ((((h.setCell (p := ⟨N, 0, none⟩) hN x).setCell (p := ⟨N, 1, none⟩) hN y).setCell (p := ⟨N, 2, none⟩) hN z).setCell (p := ⟨N, 3, none⟩) hN u).setCell (p := ⟨N, 4, none⟩) hN v
section
variable {w : World} {I : Nat → Prop} {g : Nat} {xs : List Int} {ls : List Lb} {fs : List Fm} {most : Int}
set_option maxRecDepth 100000 in
set_option maxHeartbeats 1600000 in
theorem fs_open (st dst ar h0 : Int) (lp : Bool) (h : Fs w I g xs ls fs most) (hl : ls.length ≤ 100000) (hx : xs.length ≤ 1000000) :
    Calls Try.prog 25 #[.pointer (some ⟨g, 0, none⟩), .agg #[.int .i64 st, .int .i64 dst, .int .i64 ar, .int .i64 h0, .bool lp]] w fun e w' => e = .returned (.tuple #[]) ∧ FsUp w I g xs (ls ++ [⟨st, dst, ar, xs.length, lp⟩]) fs most w' := by
  obtain ⟨D1, c1, D2, c2, D3, c3, h, hI⟩ := h
  have HI := Lib.hid hI
  have H0 := Lib.hid h
  have b0 := h.st.blk.cell 0
  simp at b0
  have hgl := h.st.blk.lt
  have hne : g ≠ w.heap.size := by omega
  have N1 := Lib.hid (Blk.new w 60 #[.int .i64 st, .int .i64 dst, .int .i64 ar, .int .i64 (xs.length : Int), .bool lp])
  have S1 : Hid (Step (fun _ => False) w (w.alloc (.cells #[.int .i64 st, .int .i64 dst, .int .i64 ar, .int .i64 (xs.length : Int), .bool lp] 60))) := Step.refl.alloc _
  have hm : ls.length + 1 ≤ maxLen := by unfold maxLen; omega
  have hone := lb_one st dst ar (xs.length : Int) lp
  clear h hI
  go_enter Try.func25, Try.ntmps25
  go_upto_region 2 with fail
  obtain ⟨W, hW⟩ : ∃ W, W = w.alloc (.cells #[.int .i64 st, .int .i64 dst, .int .i64 ar, .int .i64 (xs.length : Int), .bool lp] 60) := ⟨_, rfl⟩
  obtain ⟨N, hN⟩ : ∃ N, N = w.heap.size := ⟨_, rfl⟩
  rw [← hW]
  rw [← hW] at N1 S1
  have HN : Hid (w.heap.size ≤ N) := by rw [hN]; exact Nat.le_refl _
  rw [← hN] at N1 ⊢
  clear hW hN
  have H := Lib.hid (H0.out.quiet S1.out)
  have e0 := N1.out.cell 0
  have e1 := N1.out.cell 1
  have e2 := N1.out.cell 2
  have e3 := N1.out.cell 3
  have e4 := N1.out.cell 4
  simp at e0 e1 e2 e3 e4
  have hND : Hid (blkOf D2 ≠ some N) := fun e => by
    have := H0.out.inn N (.inr (.inr (.inl e)))
    have := HN.out
    omega
  have k1 := H.out.st.blk.cell 1
  simp at k1
  clear b0
  have d0 := cls_cell (F := fun k => blkOf D2 = some k) (w0 := W) e0 hND.out
  have d1 := cls_cell (F := fun k => blkOf D2 = some k) (w0 := W) e1 hND.out
  have d2 := cls_cell (F := fun k => blkOf D2 = some k) (w0 := W) e2 hND.out
  have d3 := cls_cell (F := fun k => blkOf D2 = some k) (w0 := W) e3 hND.out
  have d4 := cls_cell (F := fun k => blkOf D2 = some k) (w0 := W) e4 hND.out
  have d5 := cls_cell (F := fun k => blkOf D2 = some k) (w0 := W) k1 H.out.ne2
  refine Mix.wp_region_mix [6, 7, 10] [6, 7] (Step (fun k => blkOf D2 = some k) W) (by kernel_rfl) (by kernel_rfl) Step.refl.drew (fun hcls => ?_)
  refine Mix.wpL_reads 6 (by rfl) ?_
  simp only [List.take_succ_cons, List.drop_succ_cons, List.take_zero, List.drop_zero]
  repeat (go_big_quiet_step (fail))
  refine wpQuiet_nil ?_
  refine Mix.wpL_op (by rfl) (fun K hK => ?_)
  go_simp
  refine hK _ _ (fun hlt => Mix.cl (Step.drew (Step.alloc Step.refl _))) ?_
  clear hK K
  refine Mix.wpL_op (by rfl) (fun K hK => ?_)
  refine step_append_src _ (by rfl) _ _ (by rfl) E_lb (by rfl) (own_drew (H.out.lo.alloc _)) (by rfl) (reads_new W #[.int .i64 st, .int .i64 dst, .int .i64 ar, .int .i64 (xs.length : Int), .bool lp] 60 5 1 rfl).drew hone hm (by omega) (Nat.zero_le _) ?_
  intro D' c' w1 hown1 hgrow hat
  have hs1 : Hid (Step (fun k => blkOf D2 = some k) W w1) := (Step.drew (Step.alloc Step.refl _)).grown hgrow (fun k hk => .inl hk)
  refine hK _ _ (fun hlt => Mix.cl (hs1.out)) ?_
  clear hK K
  go_simp
  refine Mix.wpL_reads 2 (by rfl) ?_
  simp only [List.take_succ_cons, List.drop_succ_cons, List.take_zero, List.drop_zero]
  repeat (go_big_quiet_step (fail))
  refine wpQuiet_nil ?_
  have hb1 := H.out.st.blk.step hs1.out H.out.ne2
  have q0 := hb1.cell 1
  have f0 := hb1.frozen 1
  simp at q0
  refine Mix.wpL_op (by rfl) (fun K hK => ?_)
  go_simp
  refine hK _ _ (fun hlt => absurd hlt (by decide)) ?_
  clear hK K
  refine Mix.wpL_end ?_
  go_wp2
  go_end0
  refine ⟨rfl, FsUp.after S1.out ?_⟩
  refine FsUp.quiet (H.out.labels HI.out hs1.out (D' := D') (c' := c') (n' := ls.length + 1) (by simp) (by rw [lbs_append]; exact hown1) (fun k hk => ?_)) ?_
  · rcases hat with e | e
    · exact .inl (e ▸ hk)
    · rw [e] at hk
      simp at hk
      right; omega
  · first | exact Step.refl | exact Step.refl.drew
end
end Go.Proofs.Ytokchoocelmdoaa
