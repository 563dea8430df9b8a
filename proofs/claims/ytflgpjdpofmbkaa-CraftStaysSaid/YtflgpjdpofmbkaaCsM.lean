/-
  craft: Module.
-/
import Derived.Test.YtflgpjdpofmbkaaCsC
set_option linter.unusedVariables false
set_option linter.unusedSimpArgs false
namespace Go.Proofs.Ytflgpjdpofmbkaa
open Go.RowKit

set_option maxRecDepth 100000 in
set_option maxHeartbeats 12800000 in
theorem module_ok (w : World) (B X : Nat) (a : Ad) (s : Mo) (tk vr : Int) (h : Mk w B X a s tk vr) (hl : s.small 1000) :
    Calls Try.prog 8 #[.pointer (some ⟨X, 0, none⟩)] w fun e w' => ∃ a2 : Ad, e = .returned (.agg (mdC a2 s)) ∧ Rf w' (fun k => w.heap.size ≤ k) a2 s ∧ Step (fun _ => False) w w' := by
  obtain ⟨l0, l1, l2, l5, l6, l8, l9, l10, l16⟩ := hl
  have HRR : Hid (Rf w (fun _ => True) a s) := ⟨(Reads.of_own h.o0).mono fun _ _ _ => trivial, (Reads.of_own h.o1).mono fun _ _ _ => trivial, (Reads.of_own h.o2).mono fun _ _ _ => trivial, (Reads.of_own h.o5).mono fun _ _ _ => trivial, (Reads.of_own h.o6).mono fun _ _ _ => trivial, (Reads.of_own h.o8).mono fun _ _ _ => trivial, (Reads.of_own h.o9).mono fun _ _ _ => trivial, (Reads.of_own h.o10).mono fun _ _ _ => trivial, (Reads.of_own h.o16).mono fun _ _ _ => trivial⟩
  obtain ⟨v1, hv1⟩ : ∃ v1, v1 = w.alloc (.cells #[.slice none 0 0, .slice none 0 0, .slice none 0 0, .slice none 0 0, .slice none 0 0, .slice none 0 0, .slice none 0 0, .int .i64 0, .slice none 0 0, .slice none 0 0, .slice none 0 0, .bool false, .int .u32 0, .int .u32 0, .int .u32 0, .int .u32 0, .slice none 0 0] 41) := ⟨_, rfl⟩
  have h1 : Mk v1 B X a s tk vr := by rw [hv1]; exact h.quiet (Step.alloc Step.refl _)
  have HZ : Hid (Blk v1 w.heap.size 41 #[.slice none 0 0, .slice none 0 0, .slice none 0 0, .slice none 0 0, .slice none 0 0, .slice none 0 0, .slice none 0 0, .int .i64 0, .slice none 0 0, .slice none 0 0, .slice none 0 0, .bool false, .int .u32 0, .int .u32 0, .int .u32 0, .int .u32 0, .slice none 0 0]) := by rw [hv1]; exact Blk.new w _ _
  have hs1 : v1.heap.size = w.heap.size + 1 := by rw [hv1]; simp
  have HS1 : Hid (Step (fun _ => False) w v1) := by rw [hv1]; exact Step.alloc Step.refl _
  have HE := Lib.hid hv1
  have c0 := h1.blk.cell 0
  have c1 := h1.blk.cell 1
  have c2 := h1.blk.cell 2
  have c3 := h1.blk.cell 3
  have c4 := h1.blk.cell 4
  have c5 := h1.blk.cell 5
  have c6 := h1.blk.cell 6
  have c7 := h1.blk.cell 7
  have c8 := h1.blk.cell 8
  have c9 := h1.blk.cell 9
  have c10 := h1.blk.cell 10
  have c11 := h1.blk.cell 11
  have c12 := h1.blk.cell 12
  have c13 := h1.blk.cell 13
  have c14 := h1.blk.cell 14
  have c15 := h1.blk.cell 15
  have c16 := h1.blk.cell 16
  simp [mkC] at c0 c1 c2 c3 c4 c5 c6 c7 c8 c9 c10 c11 c12 c13 c14 c15 c16
  rw [hv1] at c0 c1 c2 c3 c4 c5 c6 c7 c8 c9 c10 c11 c12 c13 c14 c15 c16
  clear h h1 hv1
  go_enter Try.func8, Try.ntmps8
  go_wp2_with fail
  rw [← HE.out]
  clear c0 c1 c2 c3 c4 c5 c6 c7 c8 c9 c10 c11 c12 c13 c14 c15 c16
  have HB0 : Hid (Blk (v1.alloc (.cells #[.slice a.A0 s.ts.length a.c0, .slice a.A1 s.is.length a.c1, .slice a.A2 s.fs.length a.c2, .slice none 0 0, .slice none 0 0, .slice a.A5 s.gs.length a.c5, .slice a.A6 s.es.length a.c6, .int .i64 s.st, .slice a.A8 s.els.length a.c8, .slice a.A9 s.cs.length a.c9, .slice a.A10 s.ds.length a.c10, .bool true, .int .u32 (s.d1 : Int), .int .u32 (s.d2 : Int), .int .u32 (s.d3 : Int), .int .u32 (s.d4 : Int), .slice a.A16 s.nd.length a.c16] 41)) (w.heap.size + 1) 41 #[.slice a.A0 s.ts.length a.c0, .slice a.A1 s.is.length a.c1, .slice a.A2 s.fs.length a.c2, .slice none 0 0, .slice none 0 0, .slice a.A5 s.gs.length a.c5, .slice a.A6 s.es.length a.c6, .int .i64 s.st, .slice a.A8 s.els.length a.c8, .slice a.A9 s.cs.length a.c9, .slice a.A10 s.ds.length a.c10, .bool true, .int .u32 (s.d1 : Int), .int .u32 (s.d2 : Int), .int .u32 (s.d3 : Int), .int .u32 (s.d4 : Int), .slice a.A16 s.nd.length a.c16]) := by
    have := Blk.new v1 41 #[.slice a.A0 s.ts.length a.c0, .slice a.A1 s.is.length a.c1, .slice a.A2 s.fs.length a.c2, .slice none 0 0, .slice none 0 0, .slice a.A5 s.gs.length a.c5, .slice a.A6 s.es.length a.c6, .int .i64 s.st, .slice a.A8 s.els.length a.c8, .slice a.A9 s.cs.length a.c9, .slice a.A10 s.ds.length a.c10, .bool true, .int .u32 (s.d1 : Int), .int .u32 (s.d2 : Int), .int .u32 (s.d3 : Int), .int .u32 (s.d4 : Int), .slice a.A16 s.nd.length a.c16]
    rw [hs1] at this
    exact this
  have HZ0 := Lib.hid (HZ.out.alloc (.cells #[.slice a.A0 s.ts.length a.c0, .slice a.A1 s.is.length a.c1, .slice a.A2 s.fs.length a.c2, .slice none 0 0, .slice none 0 0, .slice a.A5 s.gs.length a.c5, .slice a.A6 s.es.length a.c6, .int .i64 s.st, .slice a.A8 s.els.length a.c8, .slice a.A9 s.cs.length a.c9, .slice a.A10 s.ds.length a.c10, .bool true, .int .u32 (s.d1 : Int), .int .u32 (s.d2 : Int), .int .u32 (s.d3 : Int), .int .u32 (s.d4 : Int), .slice a.A16 s.nd.length a.c16] 41))
  have HS0 := Lib.hid (HS1.out.alloc (.cells #[.slice a.A0 s.ts.length a.c0, .slice a.A1 s.is.length a.c1, .slice a.A2 s.fs.length a.c2, .slice none 0 0, .slice none 0 0, .slice a.A5 s.gs.length a.c5, .slice a.A6 s.es.length a.c6, .int .i64 s.st, .slice a.A8 s.els.length a.c8, .slice a.A9 s.cs.length a.c9, .slice a.A10 s.ds.length a.c10, .bool true, .int .u32 (s.d1 : Int), .int .u32 (s.d2 : Int), .int .u32 (s.d3 : Int), .int .u32 (s.d4 : Int), .slice a.A16 s.nd.length a.c16] 41))
  obtain ⟨u0, hu0⟩ : ∃ u0, u0 = v1.alloc (.cells #[.slice a.A0 s.ts.length a.c0, .slice a.A1 s.is.length a.c1, .slice a.A2 s.fs.length a.c2, .slice none 0 0, .slice none 0 0, .slice a.A5 s.gs.length a.c5, .slice a.A6 s.es.length a.c6, .int .i64 s.st, .slice a.A8 s.els.length a.c8, .slice a.A9 s.cs.length a.c9, .slice a.A10 s.ds.length a.c10, .bool true, .int .u32 (s.d1 : Int), .int .u32 (s.d2 : Int), .int .u32 (s.d3 : Int), .int .u32 (s.d4 : Int), .slice a.A16 s.nd.length a.c16] 41) := ⟨_, rfl⟩
  rw [← hu0] at HB0 HZ0 HS0 ⊢
  clear hu0 HZ HS1 HE hs1
  have c0 := HB0.out.cell 0
  have c1 := HB0.out.cell 1
  have c2 := HB0.out.cell 2
  simp at c0 c1 c2
  have d0 := cls_cell (F := fun _ => False) (w0 := u0) c0 id
  have d1 := cls_cell (F := fun _ => False) (w0 := u0) c1 id
  have d2 := cls_cell (F := fun _ => False) (w0 := u0) c2 id
  clear c0 c1 c2
  refine Mix.wp_region_mixp [2, 5, 8, 10, 12, 14] [2, 5] (Step (fun _ => False) u0) (by kernel_rfl) (by kernel_rfl) (Step.refl.drew) (fun hcls => ?_)
  have HC0_0 : Hid (Step (fun _ => False) u0 u0.drew) := Step.refl.drew
  refine Mix.wpL_reads 2 (by rfl) ?_
  simp only [List.take_succ_cons, List.drop_succ_cons, List.take_zero, List.drop_zero]
  repeat (go_big_quiet_step (fail))
  refine wpQuiet_nil ?_
  refine Mix.wpL_op (by rfl) (fun K hK => ?_)
  go_simp
  refine (clone_fts _ a.A0 s.ts.length a.c0 _ _ ((HRR.out.r0.step HS0.out (fun _ _ => id)).step HC0_0.out (fun _ _ => id)) (by omega) (fts_one _)).mono ?_
  rintro e w0 ⟨D0, e0, rfl, hown, hs⟩
  have HO0 := Lib.hid hown
  have hbs0 := Nat.le_trans HS0.out.size HC0_0.out.size
  have HC0_1 := Lib.hid (HC0_0.out.trans hs)
  refine hK _ _ (fun hlt => Mix.cl (HC0_1.out)) ?_
  clear hK K
  clear hs hown
  refine Mix.wpL_reads 2 (by rfl) ?_
  simp only [List.take_succ_cons, List.drop_succ_cons, List.take_zero, List.drop_zero]
  repeat (go_big_quiet_step (fail))
  refine wpQuiet_nil ?_
  refine Mix.wpL_op (by rfl) (fun K hK => ?_)
  go_simp
  refine (clone_ims _ a.A1 s.is.length a.c1 _ _ ((HRR.out.r1.step HS0.out (fun _ _ => id)).step HC0_1.out (fun _ _ => id)) (by omega) (ims_one _)).mono ?_
  rintro e w1 ⟨D1, e1, rfl, hown, hs⟩
  have HO0n := Lib.hid (own_step HO0.out hs (fun _ _ => id))
  have HO1 := Lib.hid hown
  have hbs1 := Nat.le_trans HS0.out.size HC0_1.out.size
  have HC0_2 := Lib.hid (HC0_1.out.trans hs)
  refine hK _ _ (fun hlt => Mix.cl (HC0_2.out)) ?_
  clear hK K
  clear hs hown HO0
  refine Mix.wpL_reads 2 (by rfl) ?_
  simp only [List.take_succ_cons, List.drop_succ_cons, List.take_zero, List.drop_zero]
  repeat (go_big_quiet_step (fail))
  refine wpQuiet_nil ?_
  refine Mix.wpL_op (by rfl) (fun K hK => ?_)
  go_simp
  refine (clone_u32s _ a.A2 s.fs.length a.c2 _ _ ((HRR.out.r2.step HS0.out (fun _ _ => id)).step HC0_2.out (fun _ _ => id)) (by omega) (u32s_one _)).mono ?_
  rintro e w2 ⟨D2, e2, rfl, hown, hs⟩
  have HO0nn := Lib.hid (own_step HO0n.out hs (fun _ _ => id))
  have HO1n := Lib.hid (own_step HO1.out hs (fun _ _ => id))
  have HO2 := Lib.hid hown
  have hbs2 := Nat.le_trans HS0.out.size HC0_2.out.size
  have HC0_3 := Lib.hid (HC0_2.out.trans hs)
  refine hK _ _ (fun hlt => absurd hlt (by decide)) ?_
  clear hK K
  clear hs hown HO0n HO1
  have HBk := Lib.hid (HB0.out.step HC0_3.out id)
  have HZk := Lib.hid (HZ0.out.step HC0_3.out id)
  have HSk := Lib.hid (HS0.out.trans HC0_3.out)
  clear HB0 HZ0 HS0 HC0_0 HC0_1 HC0_2 HC0_3
  refine Mix.wpL_reads 1 (by rfl) ?_
  simp only [List.take_succ_cons, List.drop_succ_cons, List.take_zero, List.drop_zero]
  repeat (go_big_quiet_step (fail))
  refine wpQuiet_nil ?_
  have z1 := HBk.out.frozen 0
  have z2 := HBk.out.cell 0
  simp at z2
  refine Mix.wpL_op (by rfl) (fun K hK => ?_)
  go_simp
  refine hK _ _ (fun hlt => absurd hlt (by decide)) ?_
  clear hK K
  obtain ⟨x3_0, hx3_0⟩ : ∃ x3_0, x3_0 = w2.setCell ⟨w.heap.size + 1, 0, none⟩ (.slice D0 s.ts.length e0) := ⟨_, rfl⟩
  have HBk0 : Hid (Blk x3_0 (w.heap.size + 1) 41 #[.slice D0 s.ts.length e0, .slice a.A1 s.is.length a.c1, .slice a.A2 s.fs.length a.c2, .slice none 0 0, .slice none 0 0, .slice a.A5 s.gs.length a.c5, .slice a.A6 s.es.length a.c6, .int .i64 s.st, .slice a.A8 s.els.length a.c8, .slice a.A9 s.cs.length a.c9, .slice a.A10 s.ds.length a.c10, .bool true, .int .u32 (s.d1 : Int), .int .u32 (s.d2 : Int), .int .u32 (s.d3 : Int), .int .u32 (s.d4 : Int), .slice a.A16 s.nd.length a.c16]) := by
    have := HBk.out.set_ 0 (.slice D0 s.ts.length e0)
    rw [← hx3_0] at this
    simp at this
    exact this
  have HZk0 : Hid (Blk x3_0 w.heap.size 41 #[.slice none 0 0, .slice none 0 0, .slice none 0 0, .slice none 0 0, .slice none 0 0, .slice none 0 0, .slice none 0 0, .int .i64 0, .slice none 0 0, .slice none 0 0, .slice none 0 0, .bool false, .int .u32 0, .int .u32 0, .int .u32 0, .int .u32 0, .slice none 0 0]) := by rw [hx3_0]; exact HZk.out.far (by simp) _
  have HSk0 : Hid (Step (fun _ => False) w x3_0) := by rw [hx3_0]; exact HSk.out.setCell (.inr (Nat.le_succ _)) _
  have HO0nn' := Lib.hid (own_set HO0nn.out (p := ⟨w.heap.size + 1, 0, none⟩) (by rw [ownBlock_slice]; exact otag HO0nn.out HBk.out (by decide)) (.slice D0 s.ts.length e0))
  rw [← hx3_0] at HO0nn'
  have HO1n' := Lib.hid (own_set HO1n.out (p := ⟨w.heap.size + 1, 0, none⟩) (by rw [ownBlock_slice]; exact otag HO1n.out HBk.out (by decide)) (.slice D0 s.ts.length e0))
  rw [← hx3_0] at HO1n'
  have HO2' := Lib.hid (own_set HO2.out (p := ⟨w.heap.size + 1, 0, none⟩) (by rw [ownBlock_slice]; exact otag HO2.out HBk.out (by decide)) (.slice D0 s.ts.length e0))
  rw [← hx3_0] at HO2'
  rw [← hx3_0]
  clear z1 z2 hx3_0 HBk HZk HSk HO0nn HO1n HO2
  refine Mix.wpL_reads 1 (by rfl) ?_
  simp only [List.take_succ_cons, List.drop_succ_cons, List.take_zero, List.drop_zero]
  repeat (go_big_quiet_step (fail))
  refine wpQuiet_nil ?_
  have z1 := HBk0.out.frozen 1
  have z2 := HBk0.out.cell 1
  simp at z2
  refine Mix.wpL_op (by rfl) (fun K hK => ?_)
  go_simp
  refine hK _ _ (fun hlt => absurd hlt (by decide)) ?_
  clear hK K
  obtain ⟨x3_1, hx3_1⟩ : ∃ x3_1, x3_1 = x3_0.setCell ⟨w.heap.size + 1, 1, none⟩ (.slice D1 s.is.length e1) := ⟨_, rfl⟩
  have HBk01 : Hid (Blk x3_1 (w.heap.size + 1) 41 #[.slice D0 s.ts.length e0, .slice D1 s.is.length e1, .slice a.A2 s.fs.length a.c2, .slice none 0 0, .slice none 0 0, .slice a.A5 s.gs.length a.c5, .slice a.A6 s.es.length a.c6, .int .i64 s.st, .slice a.A8 s.els.length a.c8, .slice a.A9 s.cs.length a.c9, .slice a.A10 s.ds.length a.c10, .bool true, .int .u32 (s.d1 : Int), .int .u32 (s.d2 : Int), .int .u32 (s.d3 : Int), .int .u32 (s.d4 : Int), .slice a.A16 s.nd.length a.c16]) := by
    have := HBk0.out.set_ 1 (.slice D1 s.is.length e1)
    rw [← hx3_1] at this
    simp at this
    exact this
  have HZk01 : Hid (Blk x3_1 w.heap.size 41 #[.slice none 0 0, .slice none 0 0, .slice none 0 0, .slice none 0 0, .slice none 0 0, .slice none 0 0, .slice none 0 0, .int .i64 0, .slice none 0 0, .slice none 0 0, .slice none 0 0, .bool false, .int .u32 0, .int .u32 0, .int .u32 0, .int .u32 0, .slice none 0 0]) := by rw [hx3_1]; exact HZk0.out.far (by simp) _
  have HSk01 : Hid (Step (fun _ => False) w x3_1) := by rw [hx3_1]; exact HSk0.out.setCell (.inr (Nat.le_succ _)) _
  have HO0nn'' := Lib.hid (own_set HO0nn'.out (p := ⟨w.heap.size + 1, 1, none⟩) (by rw [ownBlock_slice]; exact otag HO0nn'.out HBk0.out (by decide)) (.slice D1 s.is.length e1))
  rw [← hx3_1] at HO0nn''
  have HO1n'' := Lib.hid (own_set HO1n'.out (p := ⟨w.heap.size + 1, 1, none⟩) (by rw [ownBlock_slice]; exact otag HO1n'.out HBk0.out (by decide)) (.slice D1 s.is.length e1))
  rw [← hx3_1] at HO1n''
  have HO2'' := Lib.hid (own_set HO2'.out (p := ⟨w.heap.size + 1, 1, none⟩) (by rw [ownBlock_slice]; exact otag HO2'.out HBk0.out (by decide)) (.slice D1 s.is.length e1))
  rw [← hx3_1] at HO2''
  rw [← hx3_1]
  clear z1 z2 hx3_1 HBk0 HZk0 HSk0 HO0nn' HO1n' HO2'
  refine Mix.wpL_reads 1 (by rfl) ?_
  simp only [List.take_succ_cons, List.drop_succ_cons, List.take_zero, List.drop_zero]
  repeat (go_big_quiet_step (fail))
  refine wpQuiet_nil ?_
  have z1 := HBk01.out.frozen 2
  have z2 := HBk01.out.cell 2
  simp at z2
  refine Mix.wpL_op (by rfl) (fun K hK => ?_)
  go_simp
  refine hK _ _ (fun hlt => absurd hlt (by decide)) ?_
  clear hK K
  obtain ⟨x3_2, hx3_2⟩ : ∃ x3_2, x3_2 = x3_1.setCell ⟨w.heap.size + 1, 2, none⟩ (.slice D2 s.fs.length e2) := ⟨_, rfl⟩
  have HBk012 : Hid (Blk x3_2 (w.heap.size + 1) 41 #[.slice D0 s.ts.length e0, .slice D1 s.is.length e1, .slice D2 s.fs.length e2, .slice none 0 0, .slice none 0 0, .slice a.A5 s.gs.length a.c5, .slice a.A6 s.es.length a.c6, .int .i64 s.st, .slice a.A8 s.els.length a.c8, .slice a.A9 s.cs.length a.c9, .slice a.A10 s.ds.length a.c10, .bool true, .int .u32 (s.d1 : Int), .int .u32 (s.d2 : Int), .int .u32 (s.d3 : Int), .int .u32 (s.d4 : Int), .slice a.A16 s.nd.length a.c16]) := by
    have := HBk01.out.set_ 2 (.slice D2 s.fs.length e2)
    rw [← hx3_2] at this
    simp at this
    exact this
  have HZk012 : Hid (Blk x3_2 w.heap.size 41 #[.slice none 0 0, .slice none 0 0, .slice none 0 0, .slice none 0 0, .slice none 0 0, .slice none 0 0, .slice none 0 0, .int .i64 0, .slice none 0 0, .slice none 0 0, .slice none 0 0, .bool false, .int .u32 0, .int .u32 0, .int .u32 0, .int .u32 0, .slice none 0 0]) := by rw [hx3_2]; exact HZk01.out.far (by simp) _
  have HSk012 : Hid (Step (fun _ => False) w x3_2) := by rw [hx3_2]; exact HSk01.out.setCell (.inr (Nat.le_succ _)) _
  have HO0nn''' := Lib.hid (own_set HO0nn''.out (p := ⟨w.heap.size + 1, 2, none⟩) (by rw [ownBlock_slice]; exact otag HO0nn''.out HBk01.out (by decide)) (.slice D2 s.fs.length e2))
  rw [← hx3_2] at HO0nn'''
  have HO1n''' := Lib.hid (own_set HO1n''.out (p := ⟨w.heap.size + 1, 2, none⟩) (by rw [ownBlock_slice]; exact otag HO1n''.out HBk01.out (by decide)) (.slice D2 s.fs.length e2))
  rw [← hx3_2] at HO1n'''
  have HO2''' := Lib.hid (own_set HO2''.out (p := ⟨w.heap.size + 1, 2, none⟩) (by rw [ownBlock_slice]; exact otag HO2''.out HBk01.out (by decide)) (.slice D2 s.fs.length e2))
  rw [← hx3_2] at HO2'''
  rw [← hx3_2]
  clear z1 z2 hx3_2 HBk01 HZk01 HSk01 HO0nn'' HO1n'' HO2''
  refine Mix.wpL_end ?_
  clear d0 d1 d2
  go_wp2_with fail
  as_aux_lemma =>
    have c5 := HBk012.out.cell 5
    have c6 := HBk012.out.cell 6
    have c8 := HBk012.out.cell 8
    simp at c5 c6 c8
    have d5 := cls_cell (F := fun _ => False) (w0 := x3_2) c5 id
    have d6 := cls_cell (F := fun _ => False) (w0 := x3_2) c6 id
    have d8 := cls_cell (F := fun _ => False) (w0 := x3_2) c8 id
    clear c5 c6 c8
    refine Mix.wp_region_mixp [2, 5, 8, 10, 12, 14] [2, 5] (Step (fun _ => False) x3_2) (by kernel_rfl) (by kernel_rfl) (Step.refl.drew) (fun hcls => ?_)
    have HC4_0 : Hid (Step (fun _ => False) x3_2 x3_2.drew) := Step.refl.drew
    refine Mix.wpL_reads 2 (by rfl) ?_
    simp only [List.take_succ_cons, List.drop_succ_cons, List.take_zero, List.drop_zero]
    repeat (go_big_quiet_step (fail))
    refine wpQuiet_nil ?_
    refine Mix.wpL_op (by rfl) (fun K hK => ?_)
    go_simp
    refine (clone_gls _ a.A5 s.gs.length a.c5 _ _ ((HRR.out.r5.step HSk012.out (fun _ _ => id)).step HC4_0.out (fun _ _ => id)) (by omega) (gls_one _)).mono ?_
    rintro e w4 ⟨D5, e5, rfl, hown, hs⟩
    have HO0nn'''n := Lib.hid (own_step HO0nn'''.out (HC4_0.out.trans hs) (fun _ _ => id))
    have HO1n'''n := Lib.hid (own_step HO1n'''.out (HC4_0.out.trans hs) (fun _ _ => id))
    have HO2'''n := Lib.hid (own_step HO2'''.out (HC4_0.out.trans hs) (fun _ _ => id))
    have HO5 := Lib.hid hown
    have hbs5 := Nat.le_trans HSk012.out.size HC4_0.out.size
    have HC4_1 := Lib.hid (HC4_0.out.trans hs)
    refine hK _ _ (fun hlt => Mix.cl (HC4_1.out)) ?_
    clear hK K
    clear hs hown HO0nn''' HO1n''' HO2'''
    refine Mix.wpL_reads 2 (by rfl) ?_
    simp only [List.take_succ_cons, List.drop_succ_cons, List.take_zero, List.drop_zero]
    repeat (go_big_quiet_step (fail))
    refine wpQuiet_nil ?_
    refine Mix.wpL_op (by rfl) (fun K hK => ?_)
    go_simp
    refine (clone_exs _ a.A6 s.es.length a.c6 _ _ ((HRR.out.r6.step HSk012.out (fun _ _ => id)).step HC4_1.out (fun _ _ => id)) (by omega) (exs_one _)).mono ?_
    rintro e w5 ⟨D6, e6, rfl, hown, hs⟩
    have HO0nn'''nn := Lib.hid (own_step HO0nn'''n.out hs (fun _ _ => id))
    have HO1n'''nn := Lib.hid (own_step HO1n'''n.out hs (fun _ _ => id))
    have HO2'''nn := Lib.hid (own_step HO2'''n.out hs (fun _ _ => id))
    have HO5n := Lib.hid (own_step HO5.out hs (fun _ _ => id))
    have HO6 := Lib.hid hown
    have hbs6 := Nat.le_trans HSk012.out.size HC4_1.out.size
    have HC4_2 := Lib.hid (HC4_1.out.trans hs)
    refine hK _ _ (fun hlt => Mix.cl (HC4_2.out)) ?_
    clear hK K
    clear hs hown HO0nn'''n HO1n'''n HO2'''n HO5
    refine Mix.wpL_reads 2 (by rfl) ?_
    simp only [List.take_succ_cons, List.drop_succ_cons, List.take_zero, List.drop_zero]
    repeat (go_big_quiet_step (fail))
    refine wpQuiet_nil ?_
    refine Mix.wpL_op (by rfl) (fun K hK => ?_)
    go_simp
    refine (clone_elsL _ a.A8 s.els.length a.c8 _ _ ((HRR.out.r8.step HSk012.out (fun _ _ => id)).step HC4_2.out (fun _ _ => id)) (by omega) (elsL_one _)).mono ?_
    rintro e w6 ⟨D8, e8, rfl, hown, hs⟩
    have HO0nn'''nnn := Lib.hid (own_step HO0nn'''nn.out hs (fun _ _ => id))
    have HO1n'''nnn := Lib.hid (own_step HO1n'''nn.out hs (fun _ _ => id))
    have HO2'''nnn := Lib.hid (own_step HO2'''nn.out hs (fun _ _ => id))
    have HO5nn := Lib.hid (own_step HO5n.out hs (fun _ _ => id))
    have HO6n := Lib.hid (own_step HO6.out hs (fun _ _ => id))
    have HO8 := Lib.hid hown
    have hbs8 := Nat.le_trans HSk012.out.size HC4_2.out.size
    have HC4_3 := Lib.hid (HC4_2.out.trans hs)
    refine hK _ _ (fun hlt => absurd hlt (by decide)) ?_
    clear hK K
    clear hs hown HO0nn'''nn HO1n'''nn HO2'''nn HO5n HO6
    have HBk := Lib.hid (HBk012.out.step HC4_3.out id)
    have HZk := Lib.hid (HZk012.out.step HC4_3.out id)
    have HSk := Lib.hid (HSk012.out.trans HC4_3.out)
    clear HBk012 HZk012 HSk012 HC4_0 HC4_1 HC4_2 HC4_3
    refine Mix.wpL_reads 1 (by rfl) ?_
    simp only [List.take_succ_cons, List.drop_succ_cons, List.take_zero, List.drop_zero]
    repeat (go_big_quiet_step (fail))
    refine wpQuiet_nil ?_
    have z1 := HBk.out.frozen 5
    have z2 := HBk.out.cell 5
    simp at z2
    refine Mix.wpL_op (by rfl) (fun K hK => ?_)
    go_simp
    refine hK _ _ (fun hlt => absurd hlt (by decide)) ?_
    clear hK K
    obtain ⟨x7_0, hx7_0⟩ : ∃ x7_0, x7_0 = w6.setCell ⟨w.heap.size + 1, 5, none⟩ (.slice D5 s.gs.length e5) := ⟨_, rfl⟩
    have HBk0 : Hid (Blk x7_0 (w.heap.size + 1) 41 #[.slice D0 s.ts.length e0, .slice D1 s.is.length e1, .slice D2 s.fs.length e2, .slice none 0 0, .slice none 0 0, .slice D5 s.gs.length e5, .slice a.A6 s.es.length a.c6, .int .i64 s.st, .slice a.A8 s.els.length a.c8, .slice a.A9 s.cs.length a.c9, .slice a.A10 s.ds.length a.c10, .bool true, .int .u32 (s.d1 : Int), .int .u32 (s.d2 : Int), .int .u32 (s.d3 : Int), .int .u32 (s.d4 : Int), .slice a.A16 s.nd.length a.c16]) := by
      have := HBk.out.set_ 5 (.slice D5 s.gs.length e5)
      rw [← hx7_0] at this
      simp at this
      exact this
    have HZk0 : Hid (Blk x7_0 w.heap.size 41 #[.slice none 0 0, .slice none 0 0, .slice none 0 0, .slice none 0 0, .slice none 0 0, .slice none 0 0, .slice none 0 0, .int .i64 0, .slice none 0 0, .slice none 0 0, .slice none 0 0, .bool false, .int .u32 0, .int .u32 0, .int .u32 0, .int .u32 0, .slice none 0 0]) := by rw [hx7_0]; exact HZk.out.far (by simp) _
    have HSk0 : Hid (Step (fun _ => False) w x7_0) := by rw [hx7_0]; exact HSk.out.setCell (.inr (Nat.le_succ _)) _
    have HO0nn'''nnn' := Lib.hid (own_set HO0nn'''nnn.out (p := ⟨w.heap.size + 1, 5, none⟩) (by rw [ownBlock_slice]; exact otag HO0nn'''nnn.out HBk.out (by decide)) (.slice D5 s.gs.length e5))
    rw [← hx7_0] at HO0nn'''nnn'
    have HO1n'''nnn' := Lib.hid (own_set HO1n'''nnn.out (p := ⟨w.heap.size + 1, 5, none⟩) (by rw [ownBlock_slice]; exact otag HO1n'''nnn.out HBk.out (by decide)) (.slice D5 s.gs.length e5))
    rw [← hx7_0] at HO1n'''nnn'
    have HO2'''nnn' := Lib.hid (own_set HO2'''nnn.out (p := ⟨w.heap.size + 1, 5, none⟩) (by rw [ownBlock_slice]; exact otag HO2'''nnn.out HBk.out (by decide)) (.slice D5 s.gs.length e5))
    rw [← hx7_0] at HO2'''nnn'
    have HO5nn' := Lib.hid (own_set HO5nn.out (p := ⟨w.heap.size + 1, 5, none⟩) (by rw [ownBlock_slice]; exact otag HO5nn.out HBk.out (by decide)) (.slice D5 s.gs.length e5))
    rw [← hx7_0] at HO5nn'
    have HO6n' := Lib.hid (own_set HO6n.out (p := ⟨w.heap.size + 1, 5, none⟩) (by rw [ownBlock_slice]; exact otag HO6n.out HBk.out (by decide)) (.slice D5 s.gs.length e5))
    rw [← hx7_0] at HO6n'
    have HO8' := Lib.hid (own_set HO8.out (p := ⟨w.heap.size + 1, 5, none⟩) (by rw [ownBlock_slice]; exact otag HO8.out HBk.out (by decide)) (.slice D5 s.gs.length e5))
    rw [← hx7_0] at HO8'
    rw [← hx7_0]
    clear z1 z2 hx7_0 HBk HZk HSk HO0nn'''nnn HO1n'''nnn HO2'''nnn HO5nn HO6n HO8
    refine Mix.wpL_reads 1 (by rfl) ?_
    simp only [List.take_succ_cons, List.drop_succ_cons, List.take_zero, List.drop_zero]
    repeat (go_big_quiet_step (fail))
    refine wpQuiet_nil ?_
    have z1 := HBk0.out.frozen 6
    have z2 := HBk0.out.cell 6
    simp at z2
    refine Mix.wpL_op (by rfl) (fun K hK => ?_)
    go_simp
    refine hK _ _ (fun hlt => absurd hlt (by decide)) ?_
    clear hK K
    obtain ⟨x7_1, hx7_1⟩ : ∃ x7_1, x7_1 = x7_0.setCell ⟨w.heap.size + 1, 6, none⟩ (.slice D6 s.es.length e6) := ⟨_, rfl⟩
    have HBk01 : Hid (Blk x7_1 (w.heap.size + 1) 41 #[.slice D0 s.ts.length e0, .slice D1 s.is.length e1, .slice D2 s.fs.length e2, .slice none 0 0, .slice none 0 0, .slice D5 s.gs.length e5, .slice D6 s.es.length e6, .int .i64 s.st, .slice a.A8 s.els.length a.c8, .slice a.A9 s.cs.length a.c9, .slice a.A10 s.ds.length a.c10, .bool true, .int .u32 (s.d1 : Int), .int .u32 (s.d2 : Int), .int .u32 (s.d3 : Int), .int .u32 (s.d4 : Int), .slice a.A16 s.nd.length a.c16]) := by
      have := HBk0.out.set_ 6 (.slice D6 s.es.length e6)
      rw [← hx7_1] at this
      simp at this
      exact this
    have HZk01 : Hid (Blk x7_1 w.heap.size 41 #[.slice none 0 0, .slice none 0 0, .slice none 0 0, .slice none 0 0, .slice none 0 0, .slice none 0 0, .slice none 0 0, .int .i64 0, .slice none 0 0, .slice none 0 0, .slice none 0 0, .bool false, .int .u32 0, .int .u32 0, .int .u32 0, .int .u32 0, .slice none 0 0]) := by rw [hx7_1]; exact HZk0.out.far (by simp) _
    have HSk01 : Hid (Step (fun _ => False) w x7_1) := by rw [hx7_1]; exact HSk0.out.setCell (.inr (Nat.le_succ _)) _
    have HO0nn'''nnn'' := Lib.hid (own_set HO0nn'''nnn'.out (p := ⟨w.heap.size + 1, 6, none⟩) (by rw [ownBlock_slice]; exact otag HO0nn'''nnn'.out HBk0.out (by decide)) (.slice D6 s.es.length e6))
    rw [← hx7_1] at HO0nn'''nnn''
    have HO1n'''nnn'' := Lib.hid (own_set HO1n'''nnn'.out (p := ⟨w.heap.size + 1, 6, none⟩) (by rw [ownBlock_slice]; exact otag HO1n'''nnn'.out HBk0.out (by decide)) (.slice D6 s.es.length e6))
    rw [← hx7_1] at HO1n'''nnn''
    have HO2'''nnn'' := Lib.hid (own_set HO2'''nnn'.out (p := ⟨w.heap.size + 1, 6, none⟩) (by rw [ownBlock_slice]; exact otag HO2'''nnn'.out HBk0.out (by decide)) (.slice D6 s.es.length e6))
    rw [← hx7_1] at HO2'''nnn''
    have HO5nn'' := Lib.hid (own_set HO5nn'.out (p := ⟨w.heap.size + 1, 6, none⟩) (by rw [ownBlock_slice]; exact otag HO5nn'.out HBk0.out (by decide)) (.slice D6 s.es.length e6))
    rw [← hx7_1] at HO5nn''
    have HO6n'' := Lib.hid (own_set HO6n'.out (p := ⟨w.heap.size + 1, 6, none⟩) (by rw [ownBlock_slice]; exact otag HO6n'.out HBk0.out (by decide)) (.slice D6 s.es.length e6))
    rw [← hx7_1] at HO6n''
    have HO8'' := Lib.hid (own_set HO8'.out (p := ⟨w.heap.size + 1, 6, none⟩) (by rw [ownBlock_slice]; exact otag HO8'.out HBk0.out (by decide)) (.slice D6 s.es.length e6))
    rw [← hx7_1] at HO8''
    rw [← hx7_1]
    clear z1 z2 hx7_1 HBk0 HZk0 HSk0 HO0nn'''nnn' HO1n'''nnn' HO2'''nnn' HO5nn' HO6n' HO8'
    refine Mix.wpL_reads 1 (by rfl) ?_
    simp only [List.take_succ_cons, List.drop_succ_cons, List.take_zero, List.drop_zero]
    repeat (go_big_quiet_step (fail))
    refine wpQuiet_nil ?_
    have z1 := HBk01.out.frozen 8
    have z2 := HBk01.out.cell 8
    simp at z2
    refine Mix.wpL_op (by rfl) (fun K hK => ?_)
    go_simp
    refine hK _ _ (fun hlt => absurd hlt (by decide)) ?_
    clear hK K
    obtain ⟨x7_2, hx7_2⟩ : ∃ x7_2, x7_2 = x7_1.setCell ⟨w.heap.size + 1, 8, none⟩ (.slice D8 s.els.length e8) := ⟨_, rfl⟩
    have HBk012 : Hid (Blk x7_2 (w.heap.size + 1) 41 #[.slice D0 s.ts.length e0, .slice D1 s.is.length e1, .slice D2 s.fs.length e2, .slice none 0 0, .slice none 0 0, .slice D5 s.gs.length e5, .slice D6 s.es.length e6, .int .i64 s.st, .slice D8 s.els.length e8, .slice a.A9 s.cs.length a.c9, .slice a.A10 s.ds.length a.c10, .bool true, .int .u32 (s.d1 : Int), .int .u32 (s.d2 : Int), .int .u32 (s.d3 : Int), .int .u32 (s.d4 : Int), .slice a.A16 s.nd.length a.c16]) := by
      have := HBk01.out.set_ 8 (.slice D8 s.els.length e8)
      rw [← hx7_2] at this
      simp at this
      exact this
    have HZk012 : Hid (Blk x7_2 w.heap.size 41 #[.slice none 0 0, .slice none 0 0, .slice none 0 0, .slice none 0 0, .slice none 0 0, .slice none 0 0, .slice none 0 0, .int .i64 0, .slice none 0 0, .slice none 0 0, .slice none 0 0, .bool false, .int .u32 0, .int .u32 0, .int .u32 0, .int .u32 0, .slice none 0 0]) := by rw [hx7_2]; exact HZk01.out.far (by simp) _
    have HSk012 : Hid (Step (fun _ => False) w x7_2) := by rw [hx7_2]; exact HSk01.out.setCell (.inr (Nat.le_succ _)) _
    have HO0nn'''nnn''' := Lib.hid (own_set HO0nn'''nnn''.out (p := ⟨w.heap.size + 1, 8, none⟩) (by rw [ownBlock_slice]; exact otag HO0nn'''nnn''.out HBk01.out (by decide)) (.slice D8 s.els.length e8))
    rw [← hx7_2] at HO0nn'''nnn'''
    have HO1n'''nnn''' := Lib.hid (own_set HO1n'''nnn''.out (p := ⟨w.heap.size + 1, 8, none⟩) (by rw [ownBlock_slice]; exact otag HO1n'''nnn''.out HBk01.out (by decide)) (.slice D8 s.els.length e8))
    rw [← hx7_2] at HO1n'''nnn'''
    have HO2'''nnn''' := Lib.hid (own_set HO2'''nnn''.out (p := ⟨w.heap.size + 1, 8, none⟩) (by rw [ownBlock_slice]; exact otag HO2'''nnn''.out HBk01.out (by decide)) (.slice D8 s.els.length e8))
    rw [← hx7_2] at HO2'''nnn'''
    have HO5nn''' := Lib.hid (own_set HO5nn''.out (p := ⟨w.heap.size + 1, 8, none⟩) (by rw [ownBlock_slice]; exact otag HO5nn''.out HBk01.out (by decide)) (.slice D8 s.els.length e8))
    rw [← hx7_2] at HO5nn'''
    have HO6n''' := Lib.hid (own_set HO6n''.out (p := ⟨w.heap.size + 1, 8, none⟩) (by rw [ownBlock_slice]; exact otag HO6n''.out HBk01.out (by decide)) (.slice D8 s.els.length e8))
    rw [← hx7_2] at HO6n'''
    have HO8''' := Lib.hid (own_set HO8''.out (p := ⟨w.heap.size + 1, 8, none⟩) (by rw [ownBlock_slice]; exact otag HO8''.out HBk01.out (by decide)) (.slice D8 s.els.length e8))
    rw [← hx7_2] at HO8'''
    rw [← hx7_2]
    clear z1 z2 hx7_2 HBk01 HZk01 HSk01 HO0nn'''nnn'' HO1n'''nnn'' HO2'''nnn'' HO5nn'' HO6n'' HO8''
    refine Mix.wpL_end ?_
    clear d5 d6 d8
    go_wp2_with fail
    as_aux_lemma =>
      have c9 := HBk012.out.cell 9
      have c10 := HBk012.out.cell 10
      simp at c9 c10
      have d9 := cls_cell (F := fun _ => False) (w0 := x7_2) c9 id
      have d10 := cls_cell (F := fun _ => False) (w0 := x7_2) c10 id
      clear c9 c10
      refine Mix.wp_region_mixp [2, 5, 7, 9] [2] (Step (fun _ => False) x7_2) (by kernel_rfl) (by kernel_rfl) (Step.refl.drew) (fun hcls => ?_)
      have HC8_0 : Hid (Step (fun _ => False) x7_2 x7_2.drew) := Step.refl.drew
      refine Mix.wpL_reads 2 (by rfl) ?_
      simp only [List.take_succ_cons, List.drop_succ_cons, List.take_zero, List.drop_zero]
      repeat (go_big_quiet_step (fail))
      refine wpQuiet_nil ?_
      refine Mix.wpL_op (by rfl) (fun K hK => ?_)
      go_simp
      refine (clone_cdsL _ a.A9 s.cs.length a.c9 _ _ ((HRR.out.r9.step HSk012.out (fun _ _ => id)).step HC8_0.out (fun _ _ => id)) (by omega) (cdsL_one _)).mono ?_
      rintro e w8 ⟨D9, e9, rfl, hown, hs⟩
      have HO0nn'''nnn'''n := Lib.hid (own_step HO0nn'''nnn'''.out (HC8_0.out.trans hs) (fun _ _ => id))
      have HO1n'''nnn'''n := Lib.hid (own_step HO1n'''nnn'''.out (HC8_0.out.trans hs) (fun _ _ => id))
      have HO2'''nnn'''n := Lib.hid (own_step HO2'''nnn'''.out (HC8_0.out.trans hs) (fun _ _ => id))
      have HO5nn'''n := Lib.hid (own_step HO5nn'''.out (HC8_0.out.trans hs) (fun _ _ => id))
      have HO6n'''n := Lib.hid (own_step HO6n'''.out (HC8_0.out.trans hs) (fun _ _ => id))
      have HO8'''n := Lib.hid (own_step HO8'''.out (HC8_0.out.trans hs) (fun _ _ => id))
      have HO9 := Lib.hid hown
      have hbs9 := Nat.le_trans HSk012.out.size HC8_0.out.size
      have HC8_1 := Lib.hid (HC8_0.out.trans hs)
      refine hK _ _ (fun hlt => Mix.cl (HC8_1.out)) ?_
      clear hK K
      clear hs hown HO0nn'''nnn''' HO1n'''nnn''' HO2'''nnn''' HO5nn''' HO6n''' HO8'''
      refine Mix.wpL_reads 2 (by rfl) ?_
      simp only [List.take_succ_cons, List.drop_succ_cons, List.take_zero, List.drop_zero]
      repeat (go_big_quiet_step (fail))
      refine wpQuiet_nil ?_
      refine Mix.wpL_op (by rfl) (fun K hK => ?_)
      go_simp
      refine (clone_das _ a.A10 s.ds.length a.c10 _ _ ((HRR.out.r10.step HSk012.out (fun _ _ => id)).step HC8_1.out (fun _ _ => id)) (by omega) (das_one _)).mono ?_
      rintro e w9 ⟨D10, e10, rfl, hown, hs⟩
      have HO0nn'''nnn'''nn := Lib.hid (own_step HO0nn'''nnn'''n.out hs (fun _ _ => id))
      have HO1n'''nnn'''nn := Lib.hid (own_step HO1n'''nnn'''n.out hs (fun _ _ => id))
      have HO2'''nnn'''nn := Lib.hid (own_step HO2'''nnn'''n.out hs (fun _ _ => id))
      have HO5nn'''nn := Lib.hid (own_step HO5nn'''n.out hs (fun _ _ => id))
      have HO6n'''nn := Lib.hid (own_step HO6n'''n.out hs (fun _ _ => id))
      have HO8'''nn := Lib.hid (own_step HO8'''n.out hs (fun _ _ => id))
      have HO9n := Lib.hid (own_step HO9.out hs (fun _ _ => id))
      have HO10 := Lib.hid hown
      have hbs10 := Nat.le_trans HSk012.out.size HC8_1.out.size
      have HC8_2 := Lib.hid (HC8_1.out.trans hs)
      refine hK _ _ (fun hlt => absurd hlt (by decide)) ?_
      clear hK K
      clear hs hown HO0nn'''nnn'''n HO1n'''nnn'''n HO2'''nnn'''n HO5nn'''n HO6n'''n HO8'''n HO9
      have HBk := Lib.hid (HBk012.out.step HC8_2.out id)
      have HZk := Lib.hid (HZk012.out.step HC8_2.out id)
      have HSk := Lib.hid (HSk012.out.trans HC8_2.out)
      clear HBk012 HZk012 HSk012 HC8_0 HC8_1 HC8_2
      refine Mix.wpL_reads 1 (by rfl) ?_
      simp only [List.take_succ_cons, List.drop_succ_cons, List.take_zero, List.drop_zero]
      repeat (go_big_quiet_step (fail))
      refine wpQuiet_nil ?_
      have z1 := HBk.out.frozen 9
      have z2 := HBk.out.cell 9
      simp at z2
      refine Mix.wpL_op (by rfl) (fun K hK => ?_)
      go_simp
      refine hK _ _ (fun hlt => absurd hlt (by decide)) ?_
      clear hK K
      obtain ⟨x10_0, hx10_0⟩ : ∃ x10_0, x10_0 = w9.setCell ⟨w.heap.size + 1, 9, none⟩ (.slice D9 s.cs.length e9) := ⟨_, rfl⟩
      have HBk0 : Hid (Blk x10_0 (w.heap.size + 1) 41 #[.slice D0 s.ts.length e0, .slice D1 s.is.length e1, .slice D2 s.fs.length e2, .slice none 0 0, .slice none 0 0, .slice D5 s.gs.length e5, .slice D6 s.es.length e6, .int .i64 s.st, .slice D8 s.els.length e8, .slice D9 s.cs.length e9, .slice a.A10 s.ds.length a.c10, .bool true, .int .u32 (s.d1 : Int), .int .u32 (s.d2 : Int), .int .u32 (s.d3 : Int), .int .u32 (s.d4 : Int), .slice a.A16 s.nd.length a.c16]) := by
        have := HBk.out.set_ 9 (.slice D9 s.cs.length e9)
        rw [← hx10_0] at this
        simp at this
        exact this
      have HZk0 : Hid (Blk x10_0 w.heap.size 41 #[.slice none 0 0, .slice none 0 0, .slice none 0 0, .slice none 0 0, .slice none 0 0, .slice none 0 0, .slice none 0 0, .int .i64 0, .slice none 0 0, .slice none 0 0, .slice none 0 0, .bool false, .int .u32 0, .int .u32 0, .int .u32 0, .int .u32 0, .slice none 0 0]) := by rw [hx10_0]; exact HZk.out.far (by simp) _
      have HSk0 : Hid (Step (fun _ => False) w x10_0) := by rw [hx10_0]; exact HSk.out.setCell (.inr (Nat.le_succ _)) _
      have HO0nn'''nnn'''nn' := Lib.hid (own_set HO0nn'''nnn'''nn.out (p := ⟨w.heap.size + 1, 9, none⟩) (by rw [ownBlock_slice]; exact otag HO0nn'''nnn'''nn.out HBk.out (by decide)) (.slice D9 s.cs.length e9))
      rw [← hx10_0] at HO0nn'''nnn'''nn'
      have HO1n'''nnn'''nn' := Lib.hid (own_set HO1n'''nnn'''nn.out (p := ⟨w.heap.size + 1, 9, none⟩) (by rw [ownBlock_slice]; exact otag HO1n'''nnn'''nn.out HBk.out (by decide)) (.slice D9 s.cs.length e9))
      rw [← hx10_0] at HO1n'''nnn'''nn'
      have HO2'''nnn'''nn' := Lib.hid (own_set HO2'''nnn'''nn.out (p := ⟨w.heap.size + 1, 9, none⟩) (by rw [ownBlock_slice]; exact otag HO2'''nnn'''nn.out HBk.out (by decide)) (.slice D9 s.cs.length e9))
      rw [← hx10_0] at HO2'''nnn'''nn'
      have HO5nn'''nn' := Lib.hid (own_set HO5nn'''nn.out (p := ⟨w.heap.size + 1, 9, none⟩) (by rw [ownBlock_slice]; exact otag HO5nn'''nn.out HBk.out (by decide)) (.slice D9 s.cs.length e9))
      rw [← hx10_0] at HO5nn'''nn'
      have HO6n'''nn' := Lib.hid (own_set HO6n'''nn.out (p := ⟨w.heap.size + 1, 9, none⟩) (by rw [ownBlock_slice]; exact otag HO6n'''nn.out HBk.out (by decide)) (.slice D9 s.cs.length e9))
      rw [← hx10_0] at HO6n'''nn'
      have HO8'''nn' := Lib.hid (own_set HO8'''nn.out (p := ⟨w.heap.size + 1, 9, none⟩) (by rw [ownBlock_slice]; exact otag HO8'''nn.out HBk.out (by decide)) (.slice D9 s.cs.length e9))
      rw [← hx10_0] at HO8'''nn'
      have HO9n' := Lib.hid (own_set HO9n.out (p := ⟨w.heap.size + 1, 9, none⟩) (by rw [ownBlock_slice]; exact otag HO9n.out HBk.out (by decide)) (.slice D9 s.cs.length e9))
      rw [← hx10_0] at HO9n'
      have HO10' := Lib.hid (own_set HO10.out (p := ⟨w.heap.size + 1, 9, none⟩) (by rw [ownBlock_slice]; exact otag HO10.out HBk.out (by decide)) (.slice D9 s.cs.length e9))
      rw [← hx10_0] at HO10'
      rw [← hx10_0]
      clear z1 z2 hx10_0 HBk HZk HSk HO0nn'''nnn'''nn HO1n'''nnn'''nn HO2'''nnn'''nn HO5nn'''nn HO6n'''nn HO8'''nn HO9n HO10
      refine Mix.wpL_reads 1 (by rfl) ?_
      simp only [List.take_succ_cons, List.drop_succ_cons, List.take_zero, List.drop_zero]
      repeat (go_big_quiet_step (fail))
      refine wpQuiet_nil ?_
      have z1 := HBk0.out.frozen 10
      have z2 := HBk0.out.cell 10
      simp at z2
      refine Mix.wpL_op (by rfl) (fun K hK => ?_)
      go_simp
      refine hK _ _ (fun hlt => absurd hlt (by decide)) ?_
      clear hK K
      obtain ⟨x10_1, hx10_1⟩ : ∃ x10_1, x10_1 = x10_0.setCell ⟨w.heap.size + 1, 10, none⟩ (.slice D10 s.ds.length e10) := ⟨_, rfl⟩
      have HBk01 : Hid (Blk x10_1 (w.heap.size + 1) 41 #[.slice D0 s.ts.length e0, .slice D1 s.is.length e1, .slice D2 s.fs.length e2, .slice none 0 0, .slice none 0 0, .slice D5 s.gs.length e5, .slice D6 s.es.length e6, .int .i64 s.st, .slice D8 s.els.length e8, .slice D9 s.cs.length e9, .slice D10 s.ds.length e10, .bool true, .int .u32 (s.d1 : Int), .int .u32 (s.d2 : Int), .int .u32 (s.d3 : Int), .int .u32 (s.d4 : Int), .slice a.A16 s.nd.length a.c16]) := by
        have := HBk0.out.set_ 10 (.slice D10 s.ds.length e10)
        rw [← hx10_1] at this
        simp at this
        exact this
      have HZk01 : Hid (Blk x10_1 w.heap.size 41 #[.slice none 0 0, .slice none 0 0, .slice none 0 0, .slice none 0 0, .slice none 0 0, .slice none 0 0, .slice none 0 0, .int .i64 0, .slice none 0 0, .slice none 0 0, .slice none 0 0, .bool false, .int .u32 0, .int .u32 0, .int .u32 0, .int .u32 0, .slice none 0 0]) := by rw [hx10_1]; exact HZk0.out.far (by simp) _
      have HSk01 : Hid (Step (fun _ => False) w x10_1) := by rw [hx10_1]; exact HSk0.out.setCell (.inr (Nat.le_succ _)) _
      have HO0nn'''nnn'''nn'' := Lib.hid (own_set HO0nn'''nnn'''nn'.out (p := ⟨w.heap.size + 1, 10, none⟩) (by rw [ownBlock_slice]; exact otag HO0nn'''nnn'''nn'.out HBk0.out (by decide)) (.slice D10 s.ds.length e10))
      rw [← hx10_1] at HO0nn'''nnn'''nn''
      have HO1n'''nnn'''nn'' := Lib.hid (own_set HO1n'''nnn'''nn'.out (p := ⟨w.heap.size + 1, 10, none⟩) (by rw [ownBlock_slice]; exact otag HO1n'''nnn'''nn'.out HBk0.out (by decide)) (.slice D10 s.ds.length e10))
      rw [← hx10_1] at HO1n'''nnn'''nn''
      have HO2'''nnn'''nn'' := Lib.hid (own_set HO2'''nnn'''nn'.out (p := ⟨w.heap.size + 1, 10, none⟩) (by rw [ownBlock_slice]; exact otag HO2'''nnn'''nn'.out HBk0.out (by decide)) (.slice D10 s.ds.length e10))
      rw [← hx10_1] at HO2'''nnn'''nn''
      have HO5nn'''nn'' := Lib.hid (own_set HO5nn'''nn'.out (p := ⟨w.heap.size + 1, 10, none⟩) (by rw [ownBlock_slice]; exact otag HO5nn'''nn'.out HBk0.out (by decide)) (.slice D10 s.ds.length e10))
      rw [← hx10_1] at HO5nn'''nn''
      have HO6n'''nn'' := Lib.hid (own_set HO6n'''nn'.out (p := ⟨w.heap.size + 1, 10, none⟩) (by rw [ownBlock_slice]; exact otag HO6n'''nn'.out HBk0.out (by decide)) (.slice D10 s.ds.length e10))
      rw [← hx10_1] at HO6n'''nn''
      have HO8'''nn'' := Lib.hid (own_set HO8'''nn'.out (p := ⟨w.heap.size + 1, 10, none⟩) (by rw [ownBlock_slice]; exact otag HO8'''nn'.out HBk0.out (by decide)) (.slice D10 s.ds.length e10))
      rw [← hx10_1] at HO8'''nn''
      have HO9n'' := Lib.hid (own_set HO9n'.out (p := ⟨w.heap.size + 1, 10, none⟩) (by rw [ownBlock_slice]; exact otag HO9n'.out HBk0.out (by decide)) (.slice D10 s.ds.length e10))
      rw [← hx10_1] at HO9n''
      have HO10'' := Lib.hid (own_set HO10'.out (p := ⟨w.heap.size + 1, 10, none⟩) (by rw [ownBlock_slice]; exact otag HO10'.out HBk0.out (by decide)) (.slice D10 s.ds.length e10))
      rw [← hx10_1] at HO10''
      rw [← hx10_1]
      clear z1 z2 hx10_1 HBk0 HZk0 HSk0 HO0nn'''nnn'''nn' HO1n'''nnn'''nn' HO2'''nnn'''nn' HO5nn'''nn' HO6n'''nn' HO8'''nn' HO9n' HO10'
      refine Mix.wpL_end ?_
      clear d9 d10
      as_aux_lemma =>
        have c16 := HBk01.out.cell 16
        simp at c16
        go_wp2_with fail
        refine (clone_strs _ a.A16 s.nd.length a.c16 _ _ (HRR.out.r16.step HSk01.out (fun _ _ => id)) (by omega) (strs_one _)).mono ?_
        rintro e wz ⟨D16, e16, rfl, hown, hs⟩
        clear c16
        have hbs16 := HSk01.out.size
        have HO0nn'''nnn'''nn''n := Lib.hid (own_step HO0nn'''nnn'''nn''.out hs (fun _ _ => id))
        have HO1n'''nnn'''nn''n := Lib.hid (own_step HO1n'''nnn'''nn''.out hs (fun _ _ => id))
        have HO2'''nnn'''nn''n := Lib.hid (own_step HO2'''nnn'''nn''.out hs (fun _ _ => id))
        have HO5nn'''nn''n := Lib.hid (own_step HO5nn'''nn''.out hs (fun _ _ => id))
        have HO6n'''nn''n := Lib.hid (own_step HO6n'''nn''.out hs (fun _ _ => id))
        have HO8'''nn''n := Lib.hid (own_step HO8'''nn''.out hs (fun _ _ => id))
        have HO9n''n := Lib.hid (own_step HO9n''.out hs (fun _ _ => id))
        have HO10''n := Lib.hid (own_step HO10''.out hs (fun _ _ => id))
        have HO16 := Lib.hid hown
        have HBz := Lib.hid (HBk01.out.step hs id)
        have HZz := Lib.hid (HZk01.out.step hs id)
        have HSz := Lib.hid (HSk01.out.trans hs)
        clear hs hown HBk01 HZk01 HSk01 HO0nn'''nnn'''nn'' HO1n'''nnn'''nn'' HO2'''nnn'''nn'' HO5nn'''nn'' HO6n'''nn'' HO8'''nn'' HO9n'' HO10''
        have c0 := HBz.out.cell 0
        have c1 := HBz.out.cell 1
        have c2 := HBz.out.cell 2
        have c3 := HBz.out.cell 3
        have c4 := HBz.out.cell 4
        have c5 := HBz.out.cell 5
        have c6 := HBz.out.cell 6
        have c7 := HBz.out.cell 7
        have c8 := HBz.out.cell 8
        have c9 := HBz.out.cell 9
        have c10 := HBz.out.cell 10
        have c11 := HBz.out.cell 11
        have c12 := HBz.out.cell 12
        have c13 := HBz.out.cell 13
        have c14 := HBz.out.cell 14
        have c15 := HBz.out.cell 15
        have c16 := HBz.out.cell 16
        simp at c0 c1 c2 c3 c4 c5 c6 c7 c8 c9 c10 c11 c12 c13 c14 c15 c16
        have z16 := HBz.out.frozen 16
        have HZf : Blk (wz.setCell ⟨w.heap.size + 1, 16, none⟩ (.slice D16 s.nd.length e16)) w.heap.size 41 #[.slice none 0 0, .slice none 0 0, .slice none 0 0, .slice none 0 0, .slice none 0 0, .slice none 0 0, .slice none 0 0, .int .i64 0, .slice none 0 0, .slice none 0 0, .slice none 0 0, .bool false, .int .u32 0, .int .u32 0, .int .u32 0, .int .u32 0, .slice none 0 0] := HZz.out.far (by simp) _
        have hone : (#[.slice D0 s.ts.length e0, .slice D1 s.is.length e1, .slice D2 s.fs.length e2, .slice none 0 0, .slice none 0 0, .slice D5 s.gs.length e5, .slice D6 s.es.length e6, .int .i64 s.st, .slice D8 s.els.length e8, .slice D9 s.cs.length e9, .slice D10 s.ds.length e10, .bool true, .int .u32 (s.d1 : Int), .int .u32 (s.d2 : Int), .int .u32 (s.d3 : Int), .int .u32 (s.d4 : Int), .slice D16 s.nd.length e16] : Array Value).all (·.oneCell') = true := by simp [Value.oneCell']
        go_wp2_with (refine wpList_store_rowTo rfl 41 _ _ rfl rfl w.heap.size #[.slice D0 s.ts.length e0, .slice D1 s.is.length e1, .slice D2 s.fs.length e2, .slice none 0 0, .slice none 0 0, .slice D5 s.gs.length e5, .slice D6 s.es.length e6, .int .i64 s.st, .slice D8 s.els.length e8, .slice D9 s.cs.length e9, .slice D10 s.ds.length e10, .bool true, .int .u32 (s.d1 : Int), .int .u32 (s.d2 : Int), .int .u32 (s.d3 : Int), .int .u32 (s.d4 : Int), .slice D16 s.nd.length e16] rfl rfl 41 _ HZf rfl rfl hone ?_)
        have hR := HZf.row #[.slice D0 s.ts.length e0, .slice D1 s.is.length e1, .slice D2 s.fs.length e2, .slice none 0 0, .slice none 0 0, .slice D5 s.gs.length e5, .slice D6 s.es.length e6, .int .i64 s.st, .slice D8 s.els.length e8, .slice D9 s.cs.length e9, .slice D10 s.ds.length e10, .bool true, .int .u32 (s.d1 : Int), .int .u32 (s.d2 : Int), .int .u32 (s.d3 : Int), .int .u32 (s.d4 : Int), .slice D16 s.nd.length e16]
        have y0 := hR.cell 0
        have y1 := hR.cell 1
        have y2 := hR.cell 2
        have y3 := hR.cell 3
        have y4 := hR.cell 4
        have y5 := hR.cell 5
        have y6 := hR.cell 6
        have y7 := hR.cell 7
        have y8 := hR.cell 8
        have y9 := hR.cell 9
        have y10 := hR.cell 10
        have y11 := hR.cell 11
        have y12 := hR.cell 12
        have y13 := hR.cell 13
        have y14 := hR.cell 14
        have y15 := hR.cell 15
        have y16 := hR.cell 16
        simp at y0 y1 y2 y3 y4 y5 y6 y7 y8 y9 y10 y11 y12 y13 y14 y15 y16
        refine bodyPost_ret (v := .agg #[.slice D0 s.ts.length e0, .slice D1 s.is.length e1, .slice D2 s.fs.length e2, .slice none 0 0, .slice none 0 0, .slice D5 s.gs.length e5, .slice D6 s.es.length e6, .int .i64 s.st, .slice D8 s.els.length e8, .slice D9 s.cs.length e9, .slice D10 s.ds.length e10, .bool true, .int .u32 (s.d1 : Int), .int .u32 (s.d2 : Int), .int .u32 (s.d3 : Int), .int .u32 (s.d4 : Int), .slice D16 s.nd.length e16]) (by simp [results, Try.results8, go_sem, y0, y1, y2, y3, y4, y5, y6, y7, y8, y9, y10, y11, y12, y13, y14, y15, y16]) rfl ?_
        refine ⟨⟨D0, e0, D1, e1, D2, e2, D5, e5, D6, e6, D8, e8, D9, e9, D10, e10, D16, e16⟩, rfl, ?_, (HSz.out.setCell (p := ⟨w.heap.size + 1, 16, none⟩) (.inr (Nat.le_succ _)) _).setRow (.inr (Nat.le_refl _)) _⟩
        have hq : Step (fun k => k = w.heap.size + 1 ∨ k = w.heap.size) wz ((wz.setCell ⟨w.heap.size + 1, 16, none⟩ (.slice D16 s.nd.length e16)).setRow w.heap.size #[.slice D0 s.ts.length e0, .slice D1 s.is.length e1, .slice D2 s.fs.length e2, .slice none 0 0, .slice none 0 0, .slice D5 s.gs.length e5, .slice D6 s.es.length e6, .int .i64 s.st, .slice D8 s.els.length e8, .slice D9 s.cs.length e9, .slice D10 s.ds.length e10, .bool true, .int .u32 (s.d1 : Int), .int .u32 (s.d2 : Int), .int .u32 (s.d3 : Int), .int .u32 (s.d4 : Int), .slice D16 s.nd.length e16]) := (Step.refl.setCell (.inl (.inl rfl)) _).setRow (.inl (.inr rfl)) _
        exact ⟨own_new (w := w) (own_step HO0nn'''nnn'''nn''n.out hq (fun k hk e => by
          rw [ownBlock_slice] at hk
          rcases e with rfl | rfl
          · exact otag HO0nn'''nnn'''nn''n.out HBz.out (by decide) hk
          · exact otag HO0nn'''nnn'''nn''n.out HZz.out (by decide) hk)) hbs0, own_new (w := w) (own_step HO1n'''nnn'''nn''n.out hq (fun k hk e => by
          rw [ownBlock_slice] at hk
          rcases e with rfl | rfl
          · exact otag HO1n'''nnn'''nn''n.out HBz.out (by decide) hk
          · exact otag HO1n'''nnn'''nn''n.out HZz.out (by decide) hk)) hbs1, own_new (w := w) (own_step HO2'''nnn'''nn''n.out hq (fun k hk e => by
          rw [ownBlock_slice] at hk
          rcases e with rfl | rfl
          · exact otag HO2'''nnn'''nn''n.out HBz.out (by decide) hk
          · exact otag HO2'''nnn'''nn''n.out HZz.out (by decide) hk)) hbs2, own_new (w := w) (own_step HO5nn'''nn''n.out hq (fun k hk e => by
          rw [ownBlock_slice] at hk
          rcases e with rfl | rfl
          · exact otag HO5nn'''nn''n.out HBz.out (by decide) hk
          · exact otag HO5nn'''nn''n.out HZz.out (by decide) hk)) hbs5, own_new (w := w) (own_step HO6n'''nn''n.out hq (fun k hk e => by
          rw [ownBlock_slice] at hk
          rcases e with rfl | rfl
          · exact otag HO6n'''nn''n.out HBz.out (by decide) hk
          · exact otag HO6n'''nn''n.out HZz.out (by decide) hk)) hbs6, own_new (w := w) (own_step HO8'''nn''n.out hq (fun k hk e => by
          rw [ownBlock_slice] at hk
          rcases e with rfl | rfl
          · exact otag HO8'''nn''n.out HBz.out (by decide) hk
          · exact otag HO8'''nn''n.out HZz.out (by decide) hk)) hbs8, own_new (w := w) (own_step HO9n''n.out hq (fun k hk e => by
          rw [ownBlock_slice] at hk
          rcases e with rfl | rfl
          · exact otag HO9n''n.out HBz.out (by decide) hk
          · exact otag HO9n''n.out HZz.out (by decide) hk)) hbs9, own_new (w := w) (own_step HO10''n.out hq (fun k hk e => by
          rw [ownBlock_slice] at hk
          rcases e with rfl | rfl
          · exact otag HO10''n.out HBz.out (by decide) hk
          · exact otag HO10''n.out HZz.out (by decide) hk)) hbs10, own_new (w := w) (own_step HO16.out hq (fun k hk e => by
          rw [ownBlock_slice] at hk
          rcases e with rfl | rfl
          · exact otag HO16.out HBz.out (by decide) hk
          · exact otag HO16.out HZz.out (by decide) hk)) hbs16⟩
end Go.Proofs.Ytflgpjdpofmbkaa
