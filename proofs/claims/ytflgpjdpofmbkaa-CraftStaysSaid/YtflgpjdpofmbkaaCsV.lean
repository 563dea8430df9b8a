/-
  creellaw17: Same of two modules that are alike.
-/
import Derived.Test.YtflgpjdpofmbkaaCsU
set_option linter.unusedVariables false
set_option linter.unusedSimpArgs false
namespace Go.Proofs.Ytflgpjdpofmbkaa
open Go.RowKit
theorem map_get {α β : Type} {f : α → β} {l m : List α} (h : m.map f = l.map f) {j : Nat} (h1 : j < l.length) (h2 : j < m.length) : f m[j] = f l[j] := by
  have h3 := congrArg (fun x : List β => x[j]?) h
  simpa [h1, h2] using h3
set_option maxRecDepth 100000 in
set_option maxHeartbeats 25600000 in
theorem msame (w : World) (a1 a2 : Ad) (s m : Mo) (S : Nat → Prop) (al : Alike s m) (h1 : Rf w S a1 s) (h2 : Rf w S a2 m) (i1 : Inn w S s) (i2 : Inn w S m) (hl : s.small 1000) :
    Calls Try.prog 10 #[.agg (mdC a1 s), .agg (mdC a2 m)] w fun e w' => e = .returned (.bool true) ∧ Step (fun _ => False) w w' := by
  have hls : ∀ w', Step (fun _ => False) w w' → _ := fun w' h' => lists_ok w' a1 a2 s m S al (h1.step h' (fun _ _ => id)) (h2.step h' (fun _ _ => id)) hl
  obtain ⟨l0, l1, l2, l5, l6, l8, l9, l10, l16⟩ := hl
  obtain ⟨v1, hv1⟩ : ∃ v1, v1 = w.alloc (.cells (mdC a1 s) 41) := ⟨_, rfl⟩
  obtain ⟨v2, hv2⟩ : ∃ v2, v2 = v1.alloc (.cells (mdC a2 m) 41) := ⟨_, rfl⟩
  have e0 : w.heap.size = w.heap.size := rfl
  have e1 : v1.heap.size = w.heap.size + 1 := by rw [hv1]; simp [e0]
  have s1 : Step (fun _ => False) w v1 := by rw [hv1]; exact Step.alloc Step.refl _
  have e2 : v2.heap.size = w.heap.size + 1 + 1 := by rw [hv2]; simp [e1]
  have s2 : Step (fun _ => False) v1 v2 := by rw [hv2]; exact Step.alloc Step.refl _
  have HB1 : Hid (Blk v2 (w.heap.size) 41 (mdC a1 s)) := by
    have h1 : Blk v1 w.heap.size 41 (mdC a1 s) := by rw [hv1]; exact Blk.new w _ _
    exact (h1.step s2 id)
  have HB2 : Hid (Blk v2 (w.heap.size + 1) 41 (mdC a2 m)) := by
    have h1 : Blk v2 v1.heap.size 41 (mdC a2 m) := by rw [hv2]; exact Blk.new v1 _ _
    rw [e1] at h1
    exact h1
  have HS : Hid (Step (fun _ => False) w v2) := s1 |>.trans s2
  have HE1 := Lib.hid hv1
  have HE2 := Lib.hid hv2
  clear e1 s1 hv1 e2 s2 hv2 e0
  obtain ⟨N5, hN5⟩ : ∃ N5, N5 = s.gs.length := ⟨_, rfl⟩
  have HN5 : Hid (N5 = s.gs.length) := hN5
  have KN5 : Hid (N5 = m.gs.length) := by rw [al.q5]; exact hN5
  have RN5 := Lib.hid ((h1.r5).step HS.out (fun _ _ => id))
  rw [← hN5] at RN5
  have hTN5 := (h2.r5).step HS.out (fun _ _ => id)
  rw [← KN5.out] at hTN5
  rw [al.q5] at hTN5
  have TN5 := Lib.hid hTN5
  have bN5 : N5 ≤ 1000 := by rw [hN5]; exact l5
  obtain ⟨N8, hN8⟩ : ∃ N8, N8 = s.els.length := ⟨_, rfl⟩
  have HN8 : Hid (N8 = s.els.length) := hN8
  have KN8 : Hid (N8 = m.els.length) := by have := congrArg List.length al.q8; rw [List.length_map, List.length_map] at this; rw [Hid, this]; exact hN8
  have RN8 := Lib.hid ((h1.r8).step HS.out (fun _ _ => id))
  rw [← hN8] at RN8
  have hTN8 := (h2.r8).step HS.out (fun _ _ => id)
  rw [← KN8.out] at hTN8
  have TN8 := Lib.hid hTN8
  have bN8 : N8 ≤ 1000 := by rw [hN8]; exact l8
  obtain ⟨N9, hN9⟩ : ∃ N9, N9 = s.cs.length := ⟨_, rfl⟩
  have HN9 : Hid (N9 = s.cs.length) := hN9
  have KN9 : Hid (N9 = m.cs.length) := by have := congrArg List.length al.q9; rw [List.length_map, List.length_map] at this; rw [Hid, this]; exact hN9
  have RN9 := Lib.hid ((h1.r9).step HS.out (fun _ _ => id))
  rw [← hN9] at RN9
  have hTN9 := (h2.r9).step HS.out (fun _ _ => id)
  rw [← KN9.out] at hTN9
  have TN9 := Lib.hid hTN9
  have bN9 : N9 ≤ 1000 := by rw [hN9]; exact l9
  obtain ⟨N10, hN10⟩ : ∃ N10, N10 = s.ds.length := ⟨_, rfl⟩
  have HN10 : Hid (N10 = s.ds.length) := hN10
  have KN10 : Hid (N10 = m.ds.length) := by rw [al.q10]; exact hN10
  have RN10 := Lib.hid ((h1.r10).step HS.out (fun _ _ => id))
  rw [← hN10] at RN10
  have hTN10 := (h2.r10).step HS.out (fun _ _ => id)
  rw [← KN10.out] at hTN10
  rw [al.q10] at hTN10
  have TN10 := Lib.hid hTN10
  have bN10 : N10 ≤ 1000 := by rw [hN10]; exact l10
  have HI1 := Lib.hid (i1.step HS.out (fun _ _ => id))
  have HI2 := Lib.hid (i2.step HS.out (fun _ _ => id))
  have HQ8 := Lib.hid al.q8
  have HQ9 := Lib.hid al.q9
  obtain ⟨NY, hNY⟩ : ∃ NY, NY = s.nd.length := ⟨_, rfl⟩
  have HNY := Lib.hid hNY
  have hys : ∀ w', Step (fun _ => False) w w' → _ := fun w' h' => ysame w' s.d1 s.d2 s.d3 s.d4 NY a1.c16 a2.c16 a1.A16 a2.A16 s.nd S S HNY (by rw [hNY]; omega) (by rw [hNY]; exact h1.r16.step h' (fun _ _ => id)) (by have := h2.r16.step h' (fun _ _ => id); rw [al.q16] at this; rw [hNY]; exact this)
  have HYS := Lib.hid hys
  obtain ⟨M1, hM1⟩ : ∃ M1, M1 = mdC a1 s := ⟨_, rfl⟩
  obtain ⟨M2, hM2⟩ : ∃ M2, M2 = mdC a2 m := ⟨_, rfl⟩
  have HM1 := Lib.hid hM1
  have HM2 := Lib.hid hM2
  have G1 : Hid (M1.size = 17) := by rw [Hid, hM1]; rfl
  have G2 : Hid (M2.size = 17) := by rw [Hid, hM2]; rfl
  have hls2 := hls v2 HS.out
  rw [← hM1] at HE1 HB1 hls2 ⊢
  rw [← hM2] at HE2 HB2 hls2 ⊢
  have HLS := Lib.hid hls2
  have HAL : Hid (m.st = s.st ∧ m.d1 = s.d1 ∧ m.d2 = s.d2 ∧ m.d3 = s.d3 ∧ m.d4 = s.d4 ∧ m.nd = s.nd) := ⟨al.st, al.d1, al.d2, al.d3, al.d4, al.q16⟩
  clear h1 h2 i1 i2 al hM1 hM2 hls hls2 hys hNY hN5 hTN5 hN8 hTN8 hN9 hTN9 hN10 hTN10 l0 l1 l2 l5 l6 l8 l9 l10 l16
  have HSv2 : Hid (Step (fun _ => False) v2 v2) := Step.refl
  go_enter Try.func10, Try.ntmps10
  go_wp2_with (first | (refine ld_mod rfl _ rfl _ rfl M1 (by first | exact HB1.out | (rw [← HE1.out, ← HE2.out]; exact HB1.out)) G1.out ?_) | (refine ld_mod rfl _ rfl _ rfl M2 (by first | exact HB2.out | (rw [← HE1.out, ← HE2.out]; exact HB2.out)) G2.out ?_))
  rw [← HE1.out]
  rw [← HE2.out]
  refine HLS.out.mono ?_
  rintro e w3 ⟨rfl, hs3⟩
  have p5 := (HB1.out.step hs3 id).cell 5
  have r5 := (HB2.out.step hs3 id).cell 5
  rw [HM1.out] at p5
  rw [HM2.out] at r5
  have p7 := (HB1.out.step hs3 id).cell 7
  have r7 := (HB2.out.step hs3 id).cell 7
  rw [HM1.out] at p7
  rw [HM2.out] at r7
  have p8 := (HB1.out.step hs3 id).cell 8
  have r8 := (HB2.out.step hs3 id).cell 8
  rw [HM1.out] at p8
  rw [HM2.out] at r8
  have p9 := (HB1.out.step hs3 id).cell 9
  have r9 := (HB2.out.step hs3 id).cell 9
  rw [HM1.out] at p9
  rw [HM2.out] at r9
  have p10 := (HB1.out.step hs3 id).cell 10
  have r10 := (HB2.out.step hs3 id).cell 10
  rw [HM1.out] at p10
  rw [HM2.out] at r10
  have p11 := (HB1.out.step hs3 id).cell 11
  have r11 := (HB2.out.step hs3 id).cell 11
  rw [HM1.out] at p11
  rw [HM2.out] at r11
  have p12 := (HB1.out.step hs3 id).cell 12
  have r12 := (HB2.out.step hs3 id).cell 12
  rw [HM1.out] at p12
  rw [HM2.out] at r12
  have p13 := (HB1.out.step hs3 id).cell 13
  have r13 := (HB2.out.step hs3 id).cell 13
  rw [HM1.out] at p13
  rw [HM2.out] at r13
  have p14 := (HB1.out.step hs3 id).cell 14
  have r14 := (HB2.out.step hs3 id).cell 14
  rw [HM1.out] at p14
  rw [HM2.out] at r14
  have p15 := (HB1.out.step hs3 id).cell 15
  have r15 := (HB2.out.step hs3 id).cell 15
  rw [HM1.out] at p15
  rw [HM2.out] at r15
  have p16 := (HB1.out.step hs3 id).cell 16
  have r16 := (HB2.out.step hs3 id).cell 16
  rw [HM1.out] at p16
  rw [HM2.out] at r16
  simp [mdC] at p5 r5 p7 r7 p8 r8 p9 r9 p10 r10 p11 r11 p12 r12 p13 r13 p14 r14 p15 r15 p16 r16
  rw [← HN5.out] at p5
  rw [← KN5.out] at r5
  rw [← HN8.out] at p8
  rw [← KN8.out] at r8
  rw [← HN9.out] at p9
  rw [← KN9.out] at r9
  rw [← HN10.out] at p10
  rw [← KN10.out] at r10
  rw [HAL.out.1] at r7
  rw [HAL.out.2.1] at r12
  rw [HAL.out.2.2.1] at r13
  rw [HAL.out.2.2.2.1] at r14
  rw [HAL.out.2.2.2.2.1] at r15
  rw [HAL.out.2.2.2.2.2, ← HNY.out] at r16
  rw [← HNY.out] at p16
  have HS3 := Lib.hid hs3
  clear hs3
  go_wp2_with fail
  clear p5 r5 p7 r7 p8 r8 p9 r9 p10 r10 p11 r11 p12 r12 p13 r13 p14 r14 p15 r15 p16 r16
  refine (HYS.out _ (HS.out.trans HS3.out)).mono ?_
  rintro e w4 ⟨rfl, hs4⟩
  have HS4 : Hid (Step (fun _ => False) v2 w4) := HS3.out.trans hs4
  have y5 := (HB1.out.step HS4.out id).cell 5
  rw [HM1.out] at y5
  simp [mdC] at y5
  rw [← HN5.out] at y5
  clear hs4 HSv2
  go_wp2_with fail
  clear y5
  go_loopw [5] (fun iv wr => ∃ j : Nat, j ≤ N5 ∧ iv = .int .i64 (j : Int) ∧ Hid (Step (fun _ => False) v2 wr)) (fun iv _ => N5 + 1 - (intOf iv).toNat)
  case atStart => exact ⟨0, Nat.zero_le _, rfl, HS4⟩
  case round =>
    obtain ⟨j, hj, rfl, HSj⟩ := hrel
    have y5 := (HB1.out.step HSj.out id).cell 5
    have z5 := (HB2.out.step HSj.out id).cell 5
    rw [HM1.out] at y5
    rw [HM2.out] at z5
    simp [mdC] at y5 z5
    rw [← HN5.out] at y5
    rw [← KN5.out] at z5
    by_cases hlt : j < N5
    · have g1 : (j : Int) < (N5 : Int) := by omega
      have i0 : (0 : Int) ≤ (j : Int) := by omega
      have hw1 := IntWalk.i64_in ((j : Int) + 1) (by omega)
      have hjl : j < s.gs.length := by rw [← HN5.out]; exact hlt
      have hjm : j < m.gs.length := by rw [← KN5.out]; exact hlt
      obtain ⟨bk, off, hA, _, hbl, hc⟩ := reads_row Gl.cells 6 (by decide) Gl.len (RN5.out.step HSj.out (fun _ _ => id)) (k := j) hjl
      obtain ⟨bz, ofz, hZ, _, hbz, hcz⟩ := reads_row Gl.cells 6 (by decide) Gl.len (TN5.out.step HSj.out (fun _ _ => id)) (k := j) hjl
      rw [hA] at y5
      rw [hZ] at z5
      replace hA := Lib.hid hA
      replace hZ := Lib.hid hZ
      obtain ⟨x, hx⟩ : ∃ x, x = s.gs[j] := ⟨_, rfl⟩
      rw [← hx] at hc hcz
      clear hx hjm
      have HSm : Hid (∀ w', Step (fun _ => False) v2 w' → _) := fun w' _ => gsame w' x
      have t0 := hc 0 _ rfl
      have u0 := hcz 0 _ rfl
      have t1 := hc 1 _ rfl
      have u1 := hcz 1 _ rfl
      have t2 := hc 2 _ rfl
      have u2 := hcz 2 _ rfl
      have t3 := hc 3 _ rfl
      have u3 := hcz 3 _ rfl
      have t4 := hc 4 _ rfl
      have u4 := hcz 4 _ rfl
      have t5 := hc 5 _ rfl
      have u5 := hcz 5 _ rfl
      simp only [Nat.add_zero] at t0 u0
      clear hc hcz
      have dY := cls_cell (F := fun _ => False) (w0 := wr) y5 id
      have dZ := cls_cell (F := fun _ => False) (w0 := wr) z5 id
      have d0 := cls_cell (F := fun _ => False) (w0 := wr) t0 id
      have f0 := cls_cell (F := fun _ => False) (w0 := wr) u0 id
      have d1 := cls_cell (F := fun _ => False) (w0 := wr) t1 id
      have f1 := cls_cell (F := fun _ => False) (w0 := wr) u1 id
      have d2 := cls_cell (F := fun _ => False) (w0 := wr) t2 id
      have f2 := cls_cell (F := fun _ => False) (w0 := wr) u2 id
      have d3 := cls_cell (F := fun _ => False) (w0 := wr) t3 id
      have f3 := cls_cell (F := fun _ => False) (w0 := wr) u3 id
      have d4 := cls_cell (F := fun _ => False) (w0 := wr) t4 id
      have f4 := cls_cell (F := fun _ => False) (w0 := wr) u4 id
      have d5 := cls_cell (F := fun _ => False) (w0 := wr) t5 id
      have f5 := cls_cell (F := fun _ => False) (w0 := wr) u5 id
      go_wp2_with fail
      clear y5 z5 t0 u0 t1 u1 t2 u2 t3 u3 t4 u4 t5 u5
      refine Mix.wp_region_mix [10] [10] (Step (fun _ => False) wr) (by kernel_rfl) (by kernel_rfl) (Step.refl.drew) (fun hcls => ?_)
      refine Mix.wpL_reads 10 (by rfl) ?_
      simp only [List.take_succ_cons, List.drop_succ_cons, List.take_zero, List.drop_zero]
      repeat (go_big_quiet_step (fail))
      refine wpQuiet_nil ?_
      refine Mix.wpL_op (by rfl) (fun K hK => ?_)
      go_simp
      refine (HSm.out _ (HSj.out.trans Step.refl.drew)).mono ?_
      rintro e wd ⟨rfl, hSd⟩
      have HSd := Lib.hid (Step.refl.drew.trans hSd)
      refine hK _ _ (fun hlt => Mix.cl (HSd.out)) ?_
      clear hK K
      clear hSd
      refine Mix.wpL_reads 1 (by rfl) ?_
      simp only [List.take_succ_cons, List.drop_succ_cons, List.take_zero, List.drop_zero]
      repeat (go_big_quiet_step (fail))
      refine wpQuiet_nil ?_
      refine Mix.wpL_end ?_
      have HSq := Lib.hid (HSj.out.trans HSd.out)
      go_wp2_with fail
      go_roundw
      case rel => exact ⟨j + 1, by omega, by rw [Int.natCast_add]; rfl, by first | exact HSj.out.drewN _ | exact HSq.out⟩
      case measure => simp [intOf]; omega
    · obtain rfl : j = N5 := by omega
      go_wp2_with fail
      go_loopw [6] (fun iv wr => ∃ j : Nat, j ≤ N8 ∧ iv = .int .i64 (j : Int) ∧ Hid (Step (fun _ => False) v2 wr)) (fun iv _ => N8 + 1 - (intOf iv).toNat)
      case atStart => exact ⟨0, Nat.zero_le _, rfl, HSj⟩
      case round =>
        obtain ⟨j, hj, rfl, HSj⟩ := hrel
        have y8 := (HB1.out.step HSj.out id).cell 8
        have z8 := (HB2.out.step HSj.out id).cell 8
        rw [HM1.out] at y8
        rw [HM2.out] at z8
        simp [mdC] at y8 z8
        rw [← HN8.out] at y8
        rw [← KN8.out] at z8
        by_cases hlt : j < N8
        · have g1 : (j : Int) < (N8 : Int) := by omega
          have i0 : (0 : Int) ≤ (j : Int) := by omega
          have hw1 := IntWalk.i64_in ((j : Int) + 1) (by omega)
          have hjl : j < s.els.length := by rw [← HN8.out]; exact hlt
          have hjm : j < m.els.length := by rw [← KN8.out]; exact hlt
          obtain ⟨bk, off, hA, _, hbl, hc⟩ := reads_row El.cells 5 (by decide) El.len (RN8.out.step HSj.out (fun _ _ => id)) (k := j) hjl
          obtain ⟨bz, ofz, hZ, _, hbz, hcz⟩ := reads_row El.cells 5 (by decide) El.len (TN8.out.step HSj.out (fun _ _ => id)) (k := j) hjm
          rw [hA] at y8
          rw [hZ] at z8
          replace hA := Lib.hid hA
          replace hZ := Lib.hid hZ
          have hi1 := HI1.out.el _ (List.getElem_mem hjl)
          have hi2 := HI2.out.el _ (List.getElem_mem hjm)
          have he := map_get HQ8.out hjl hjm
          obtain ⟨x, hx⟩ : ∃ x, x = s.els[j] := ⟨_, rfl⟩
          obtain ⟨x2, hx2⟩ : ∃ x2, x2 = m.els[j] := ⟨_, rfl⟩
          rw [← hx] at hc hi1 he
          rw [← hx2] at hcz hi2 he
          clear hx hx2 hjm
          obtain ⟨g, f', A, c⟩ := x
          obtain ⟨g2, f2, A2, c2⟩ := x2
          simp only [El.er, El.mk.injEq] at he
          obtain ⟨rfl, rfl, -, -⟩ := he
          simp only at hi1 hi2
          have HSm : Hid (∀ w', Step (fun _ => False) v2 w' → _) := fun w' h' => esame w' g2 f2 1 c c2 A A2 S S rfl (by decide) (hi1.step h' (fun _ _ => id)) (hi2.step h' (fun _ _ => id))
          clear hi1 hi2
          have t0 := hc 0 _ rfl
          have u0 := hcz 0 _ rfl
          have t1 := hc 1 _ rfl
          have u1 := hcz 1 _ rfl
          have t2 := hc 2 _ rfl
          have u2 := hcz 2 _ rfl
          have t3 := hc 3 _ rfl
          have u3 := hcz 3 _ rfl
          have t4 := hc 4 _ rfl
          have u4 := hcz 4 _ rfl
          simp only [Nat.add_zero] at t0 u0
          clear hc hcz
          simp only at t0 u0 t1 u1 t2 u2 t3 u3 t4 u4
          have dY := cls_cell (F := fun _ => False) (w0 := wr) y8 id
          have dZ := cls_cell (F := fun _ => False) (w0 := wr) z8 id
          have d0 := cls_cell (F := fun _ => False) (w0 := wr) t0 id
          have f0 := cls_cell (F := fun _ => False) (w0 := wr) u0 id
          have d1 := cls_cell (F := fun _ => False) (w0 := wr) t1 id
          have f1 := cls_cell (F := fun _ => False) (w0 := wr) u1 id
          have d2 := cls_cell (F := fun _ => False) (w0 := wr) t2 id
          have f2 := cls_cell (F := fun _ => False) (w0 := wr) u2 id
          have d3 := cls_cell (F := fun _ => False) (w0 := wr) t3 id
          have f3 := cls_cell (F := fun _ => False) (w0 := wr) u3 id
          have d4 := cls_cell (F := fun _ => False) (w0 := wr) t4 id
          have f4 := cls_cell (F := fun _ => False) (w0 := wr) u4 id
          go_wp2_with fail
          clear y8 z8 t0 u0 t1 u1 t2 u2 t3 u3 t4 u4
          refine Mix.wp_region_mix [10] [10] (Step (fun _ => False) wr) (by kernel_rfl) (by kernel_rfl) (Step.refl.drew) (fun hcls => ?_)
          refine Mix.wpL_reads 10 (by rfl) ?_
          simp only [List.take_succ_cons, List.drop_succ_cons, List.take_zero, List.drop_zero]
          repeat (go_big_quiet_step (fail))
          refine wpQuiet_nil ?_
          refine Mix.wpL_op (by rfl) (fun K hK => ?_)
          go_simp
          refine (HSm.out _ (HSj.out.trans Step.refl.drew)).mono ?_
          rintro e wd ⟨rfl, hSd⟩
          have HSd := Lib.hid (Step.refl.drew.trans hSd)
          refine hK _ _ (fun hlt => Mix.cl (HSd.out)) ?_
          clear hK K
          clear hSd
          refine Mix.wpL_reads 1 (by rfl) ?_
          simp only [List.take_succ_cons, List.drop_succ_cons, List.take_zero, List.drop_zero]
          repeat (go_big_quiet_step (fail))
          refine wpQuiet_nil ?_
          refine Mix.wpL_end ?_
          have HSq := Lib.hid (HSj.out.trans HSd.out)
          go_wp2_with fail
          go_roundw
          case rel => exact ⟨j + 1, by omega, by rw [Int.natCast_add]; rfl, by first | exact HSj.out.drewN _ | exact HSq.out⟩
          case measure => simp [intOf]; omega
        · obtain rfl : j = N8 := by omega
          go_wp2_with fail
          go_loopw [7] (fun iv wr => ∃ j : Nat, j ≤ N9 ∧ iv = .int .i64 (j : Int) ∧ Hid (Step (fun _ => False) v2 wr)) (fun iv _ => N9 + 1 - (intOf iv).toNat)
          case atStart => exact ⟨0, Nat.zero_le _, rfl, HSj⟩
          case round =>
            obtain ⟨j, hj, rfl, HSj⟩ := hrel
            have y9 := (HB1.out.step HSj.out id).cell 9
            have z9 := (HB2.out.step HSj.out id).cell 9
            rw [HM1.out] at y9
            rw [HM2.out] at z9
            simp [mdC] at y9 z9
            rw [← HN9.out] at y9
            rw [← KN9.out] at z9
            by_cases hlt : j < N9
            · have g1 : (j : Int) < (N9 : Int) := by omega
              have i0 : (0 : Int) ≤ (j : Int) := by omega
              have hw1 := IntWalk.i64_in ((j : Int) + 1) (by omega)
              have hjl : j < s.cs.length := by rw [← HN9.out]; exact hlt
              have hjm : j < m.cs.length := by rw [← KN9.out]; exact hlt
              obtain ⟨bk, off, hA, _, hbl, hc⟩ := reads_row Cd.cells 2 (by decide) Cd.len (RN9.out.step HSj.out (fun _ _ => id)) (k := j) hjl
              obtain ⟨bz, ofz, hZ, _, hbz, hcz⟩ := reads_row Cd.cells 2 (by decide) Cd.len (TN9.out.step HSj.out (fun _ _ => id)) (k := j) hjm
              rw [hA] at y9
              rw [hZ] at z9
              replace hA := Lib.hid hA
              replace hZ := Lib.hid hZ
              have hl1 := HI1.out.lo _ (List.getElem_mem hjl)
              have hl2 := HI2.out.lo _ (List.getElem_mem hjm)
              have hb1 := HI1.out.bo _ (List.getElem_mem hjl)
              have hb2 := HI2.out.bo _ (List.getElem_mem hjm)
              have hin := HI1.out.ins _ (List.getElem_mem hjl)
              have hbd := HI1.out.bd _ (List.getElem_mem hjl)
              have he := map_get HQ9.out hjl hjm
              obtain ⟨x, hx⟩ : ∃ x, x = s.cs[j] := ⟨_, rfl⟩
              obtain ⟨x2, hx2⟩ : ∃ x2, x2 = m.cs[j] := ⟨_, rfl⟩
              rw [← hx] at hc hl1 hb1 hin hbd he
              rw [← hx2] at hcz hl2 hb2 he
              clear hx hx2 hjm
              obtain ⟨lo, bo, LA, lc, BA, bc⟩ := x
              obtain ⟨lo2, bo2, LA2, lc2, BA2, bc2⟩ := x2
              simp only [Cd.er, Cd.mk.injEq] at he
              obtain ⟨rfl, rfl, -⟩ := he
              simp only at hl1 hl2 hb1 hb2 hin hbd
              have HSm : Hid (∀ w', Step (fun _ => False) v2 w' → _) := fun w' h' => csame w' lo2.length bo2.length lc lc2 bc bc2 LA LA2 BA BA2 lo2 bo2 S S S S S rfl rfl hbd.1 hbd.2.1 (hl1.step h' (fun _ _ => id)) (hl2.step h' (fun _ _ => id)) (hb1.step h' (fun _ _ => id)) (hb2.step h' (fun _ _ => id)) (fun g hg => ⟨hbd.2.2 g hg, (hin g hg).1, (hin g hg).2.step h' (fun _ _ => id)⟩)
              clear hl1 hl2 hb1 hb2 hin hbd
              obtain ⟨n1, hn1⟩ : ∃ n1, n1 = lo2.length := ⟨_, rfl⟩
              obtain ⟨n2, hn2⟩ : ∃ n2, n2 = bo2.length := ⟨_, rfl⟩
              rw [← hn1, ← hn2] at HSm
              have t0 := hc 0 _ rfl
              have u0 := hcz 0 _ rfl
              have t1 := hc 1 _ rfl
              have u1 := hcz 1 _ rfl
              simp only [Nat.add_zero] at t0 u0
              clear hc hcz
              simp only at t0 t1 u0 u1
              rw [← hn1] at t0 u0
              rw [← hn2] at t1 u1
              clear hn1 hn2
              have dY := cls_cell (F := fun _ => False) (w0 := wr) y9 id
              have dZ := cls_cell (F := fun _ => False) (w0 := wr) z9 id
              have d0 := cls_cell (F := fun _ => False) (w0 := wr) t0 id
              have f0 := cls_cell (F := fun _ => False) (w0 := wr) u0 id
              have d1 := cls_cell (F := fun _ => False) (w0 := wr) t1 id
              have f1 := cls_cell (F := fun _ => False) (w0 := wr) u1 id
              go_wp2_with fail
              clear y9 z9 t0 u0 t1 u1
              refine Mix.wp_region_mix [10] [10] (Step (fun _ => False) wr) (by kernel_rfl) (by kernel_rfl) (Step.refl.drew) (fun hcls => ?_)
              refine Mix.wpL_reads 10 (by rfl) ?_
              simp only [List.take_succ_cons, List.drop_succ_cons, List.take_zero, List.drop_zero]
              repeat (go_big_quiet_step (fail))
              refine wpQuiet_nil ?_
              refine Mix.wpL_op (by rfl) (fun K hK => ?_)
              go_simp
              refine (HSm.out _ (HSj.out.trans Step.refl.drew)).mono ?_
              rintro e wd ⟨rfl, hSd⟩
              have HSd := Lib.hid (Step.refl.drew.trans hSd)
              refine hK _ _ (fun hlt => Mix.cl (HSd.out)) ?_
              clear hK K
              clear hSd
              refine Mix.wpL_reads 1 (by rfl) ?_
              simp only [List.take_succ_cons, List.drop_succ_cons, List.take_zero, List.drop_zero]
              repeat (go_big_quiet_step (fail))
              refine wpQuiet_nil ?_
              refine Mix.wpL_end ?_
              have HSq := Lib.hid (HSj.out.trans HSd.out)
              go_wp2_with fail
              go_roundw
              case rel => exact ⟨j + 1, by omega, by rw [Int.natCast_add]; rfl, by first | exact HSj.out.drewN _ | exact HSq.out⟩
              case measure => simp [intOf]; omega
            · obtain rfl : j = N9 := by omega
              go_wp2_with fail
              go_loopw [8] (fun iv wr => ∃ j : Nat, j ≤ N10 ∧ iv = .int .i64 (j : Int) ∧ Hid (Step (fun _ => False) v2 wr)) (fun iv _ => N10 + 1 - (intOf iv).toNat)
              case atStart => exact ⟨0, Nat.zero_le _, rfl, HSj⟩
              case round =>
                obtain ⟨j, hj, rfl, HSj⟩ := hrel
                have y10 := (HB1.out.step HSj.out id).cell 10
                have z10 := (HB2.out.step HSj.out id).cell 10
                rw [HM1.out] at y10
                rw [HM2.out] at z10
                simp [mdC] at y10 z10
                rw [← HN10.out] at y10
                rw [← KN10.out] at z10
                by_cases hlt : j < N10
                · have g1 : (j : Int) < (N10 : Int) := by omega
                  have i0 : (0 : Int) ≤ (j : Int) := by omega
                  have hw1 := IntWalk.i64_in ((j : Int) + 1) (by omega)
                  have hjl : j < s.ds.length := by rw [← HN10.out]; exact hlt
                  have hjm : j < m.ds.length := by rw [← KN10.out]; exact hlt
                  obtain ⟨bk, off, hA, _, hbl, hc⟩ := reads_row Da.cells 5 (by decide) Da.len (RN10.out.step HSj.out (fun _ _ => id)) (k := j) hjl
                  obtain ⟨bz, ofz, hZ, _, hbz, hcz⟩ := reads_row Da.cells 5 (by decide) Da.len (TN10.out.step HSj.out (fun _ _ => id)) (k := j) hjl
                  rw [hA] at y10
                  rw [hZ] at z10
                  replace hA := Lib.hid hA
                  replace hZ := Lib.hid hZ
                  obtain ⟨x, hx⟩ : ∃ x, x = s.ds[j] := ⟨_, rfl⟩
                  rw [← hx] at hc hcz
                  clear hx hjm
                  have HSm : Hid (∀ w', Step (fun _ => False) v2 w' → _) := fun w' _ => dsame w' x
                  have t0 := hc 0 _ rfl
                  have u0 := hcz 0 _ rfl
                  have t1 := hc 1 _ rfl
                  have u1 := hcz 1 _ rfl
                  have t2 := hc 2 _ rfl
                  have u2 := hcz 2 _ rfl
                  have t3 := hc 3 _ rfl
                  have u3 := hcz 3 _ rfl
                  have t4 := hc 4 _ rfl
                  have u4 := hcz 4 _ rfl
                  simp only [Nat.add_zero] at t0 u0
                  clear hc hcz
                  have dY := cls_cell (F := fun _ => False) (w0 := wr) y10 id
                  have dZ := cls_cell (F := fun _ => False) (w0 := wr) z10 id
                  have d0 := cls_cell (F := fun _ => False) (w0 := wr) t0 id
                  have f0 := cls_cell (F := fun _ => False) (w0 := wr) u0 id
                  have d1 := cls_cell (F := fun _ => False) (w0 := wr) t1 id
                  have f1 := cls_cell (F := fun _ => False) (w0 := wr) u1 id
                  have d2 := cls_cell (F := fun _ => False) (w0 := wr) t2 id
                  have f2 := cls_cell (F := fun _ => False) (w0 := wr) u2 id
                  have d3 := cls_cell (F := fun _ => False) (w0 := wr) t3 id
                  have f3 := cls_cell (F := fun _ => False) (w0 := wr) u3 id
                  have d4 := cls_cell (F := fun _ => False) (w0 := wr) t4 id
                  have f4 := cls_cell (F := fun _ => False) (w0 := wr) u4 id
                  go_wp2_with fail
                  clear y10 z10 t0 u0 t1 u1 t2 u2 t3 u3 t4 u4
                  refine Mix.wp_region_mix [10] [10] (Step (fun _ => False) wr) (by kernel_rfl) (by kernel_rfl) (Step.refl.drew) (fun hcls => ?_)
                  refine Mix.wpL_reads 10 (by rfl) ?_
                  simp only [List.take_succ_cons, List.drop_succ_cons, List.take_zero, List.drop_zero]
                  repeat (go_big_quiet_step (fail))
                  refine wpQuiet_nil ?_
                  refine Mix.wpL_op (by rfl) (fun K hK => ?_)
                  go_simp
                  refine (HSm.out _ (HSj.out.trans Step.refl.drew)).mono ?_
                  rintro e wd ⟨rfl, hSd⟩
                  have HSd := Lib.hid (Step.refl.drew.trans hSd)
                  refine hK _ _ (fun hlt => Mix.cl (HSd.out)) ?_
                  clear hK K
                  clear hSd
                  refine Mix.wpL_reads 1 (by rfl) ?_
                  simp only [List.take_succ_cons, List.drop_succ_cons, List.take_zero, List.drop_zero]
                  repeat (go_big_quiet_step (fail))
                  refine wpQuiet_nil ?_
                  refine Mix.wpL_end ?_
                  have HSq := Lib.hid (HSj.out.trans HSd.out)
                  go_wp2_with fail
                  go_roundw
                  case rel => exact ⟨j + 1, by omega, by rw [Int.natCast_add]; rfl, by first | exact HSj.out.drewN _ | exact HSq.out⟩
                  case measure => simp [intOf]; omega
                · obtain rfl : j = N10 := by omega
                  go_wp2_with fail
                  go_ret
                  exact ⟨rfl, HS.out.trans HSj.out⟩
end Go.Proofs.Ytflgpjdpofmbkaa
