/-
  creellaw17: lists, Same, where all is alike.
-/
import Derived.Test.YtflgpjdpofmbkaaCsT
set_option linter.unusedVariables false
set_option linter.unusedSimpArgs false
namespace Go.Proofs.Ytflgpjdpofmbkaa
open Go.RowKit
set_option maxRecDepth 100000 in
set_option maxHeartbeats 25600000 in
theorem lists_ok (w : World) (a1 a2 : Ad) (s m : Mo) (S : Nat → Prop) (al : Alike s m) (h1 : Rf w S a1 s) (h2 : Rf w S a2 m) (hl : s.small 1000) :
    Calls Try.prog 29 #[.agg (mdC a1 s), .agg (mdC a2 m)] w fun e w' => e = .returned (.bool true) ∧ Step (fun _ => False) w w' := by
  obtain ⟨l0, l1, l2, l5, l6, l8, l9, l10, l16⟩ := hl
  obtain ⟨v1, hv1⟩ : ∃ v1, v1 = w.alloc (.cells (mdC a1 s) 41) := ⟨_, rfl⟩
  obtain ⟨v2, hv2⟩ : ∃ v2, v2 = v1.alloc (.cells (mdC a2 m) 41) := ⟨_, rfl⟩
  have e0 : w.heap.size = w.heap.size := rfl
  have e1 : v1.heap.size = w.heap.size + 1 := by rw [hv1]; simp [e0]
  have s1 : Step (fun _ => False) w v1 := by rw [hv1]; exact Step.alloc Step.refl _
  have e2 : v2.heap.size = w.heap.size + 1 + 1 := by rw [hv2]; simp [e1]
  have s2 : Step (fun _ => False) v1 v2 := by rw [hv2]; exact Step.alloc Step.refl _
  have HB1 : Hid (Blk v2 (w.heap.size) 41 (mdC a1 s)) := by
    have h1 : Blk v1 w.heap.size 41 (mdC a1 s) := by rw [hv1]; exact Blk.new w _ _
    exact (h1.step s2 id)
  have HB2 : Hid (Blk v2 (w.heap.size + 1) 41 (mdC a2 m)) := by
    have h1 : Blk v2 v1.heap.size 41 (mdC a2 m) := by rw [hv2]; exact Blk.new v1 _ _
    rw [e1] at h1
    exact h1
  have HS : Hid (Step (fun _ => False) w v2) := s1 |>.trans s2
  have HE1 := Lib.hid hv1
  have HE2 := Lib.hid hv2
  clear e1 s1 hv1 e2 s2 hv2 e0
  obtain ⟨N0, hN0⟩ : ∃ N0, N0 = s.ts.length := ⟨_, rfl⟩
  have HN0 : Hid (N0 = s.ts.length) := hN0
  have KN0 : Hid (N0 = m.ts.length) := by rw [al.q0]; exact hN0
  have RN0 := Lib.hid ((h1.r0).step HS.out (fun _ _ => id))
  rw [← hN0] at RN0
  have hTN0 := (h2.r0).step HS.out (fun _ _ => id)
  rw [al.q0, ← hN0] at hTN0
  have TN0 := Lib.hid hTN0
  have bN0 : N0 ≤ 1000 := by rw [hN0]; exact l0
  obtain ⟨N1, hN1⟩ : ∃ N1, N1 = s.is.length := ⟨_, rfl⟩
  have HN1 : Hid (N1 = s.is.length) := hN1
  have KN1 : Hid (N1 = m.is.length) := by rw [al.q1]; exact hN1
  have RN1 := Lib.hid ((h1.r1).step HS.out (fun _ _ => id))
  rw [← hN1] at RN1
  have hTN1 := (h2.r1).step HS.out (fun _ _ => id)
  rw [al.q1, ← hN1] at hTN1
  have TN1 := Lib.hid hTN1
  have bN1 : N1 ≤ 1000 := by rw [hN1]; exact l1
  obtain ⟨N2, hN2⟩ : ∃ N2, N2 = s.fs.length := ⟨_, rfl⟩
  have HN2 : Hid (N2 = s.fs.length) := hN2
  have KN2 : Hid (N2 = m.fs.length) := by rw [al.q2]; exact hN2
  have RN2 := Lib.hid ((h1.r2).step HS.out (fun _ _ => id))
  rw [← hN2] at RN2
  have hTN2 := (h2.r2).step HS.out (fun _ _ => id)
  rw [al.q2, ← hN2] at hTN2
  have TN2 := Lib.hid hTN2
  have bN2 : N2 ≤ 1000 := by rw [hN2]; exact l2
  obtain ⟨N6, hN6⟩ : ∃ N6, N6 = s.es.length := ⟨_, rfl⟩
  have HN6 : Hid (N6 = s.es.length) := hN6
  have KN6 : Hid (N6 = m.es.length) := by rw [al.q6]; exact hN6
  have RN6 := Lib.hid ((h1.r6).step HS.out (fun _ _ => id))
  rw [← hN6] at RN6
  have hTN6 := (h2.r6).step HS.out (fun _ _ => id)
  rw [al.q6, ← hN6] at hTN6
  have TN6 := Lib.hid hTN6
  have bN6 : N6 ≤ 1000 := by rw [hN6]; exact l6
  obtain ⟨M1, hM1⟩ : ∃ M1, M1 = mdC a1 s := ⟨_, rfl⟩
  obtain ⟨M2, hM2⟩ : ∃ M2, M2 = mdC a2 m := ⟨_, rfl⟩
  have HM1 := Lib.hid hM1
  have HM2 := Lib.hid hM2
  rw [← hM1] at HE1 HB1 ⊢
  rw [← hM2] at HE2 HB2 ⊢
  have p0 := HB1.out.cell 0
  have r0 := HB2.out.cell 0
  rw [hM1] at p0
  rw [hM2] at r0
  have p1 := HB1.out.cell 1
  have r1 := HB2.out.cell 1
  rw [hM1] at p1
  rw [hM2] at r1
  have p2 := HB1.out.cell 2
  have r2 := HB2.out.cell 2
  rw [hM1] at p2
  rw [hM2] at r2
  have p3 := HB1.out.cell 3
  have r3 := HB2.out.cell 3
  rw [hM1] at p3
  rw [hM2] at r3
  have p4 := HB1.out.cell 4
  have r4 := HB2.out.cell 4
  rw [hM1] at p4
  rw [hM2] at r4
  have p6 := HB1.out.cell 6
  have r6 := HB2.out.cell 6
  rw [hM1] at p6
  rw [hM2] at r6
  simp [mdC] at p0 r0 p1 r1 p2 r2 p3 r3 p4 r4 p6 r6
  rw [HE2.out, HE1.out] at p0 r0 p1 r1 p2 r2 p3 r3 p4 r4 p6 r6
  rw [← HN0.out] at p0
  rw [← KN0.out] at r0
  rw [← HN1.out] at p1
  rw [← KN1.out] at r1
  rw [← HN2.out] at p2
  rw [← KN2.out] at r2
  rw [← HN6.out] at p6
  rw [← KN6.out] at r6
  clear h1 h2 al hM1 hM2 hN0 hTN0 hN1 hTN1 hN2 hTN2 hN6 hTN6 l0 l1 l2 l5 l6 l8 l9 l10 l16
  have HSv2 : Hid (Step (fun _ => False) v2 v2) := Step.refl
  go_enter Try.func29, Try.ntmps29
  go_wp2_with fail
  rw [← HE1.out]
  rw [← HE2.out]
  clear p0 r0 p1 r1 p2 r2 p3 r3 p4 r4 p6 r6
  go_loopw [5] (fun iv wr => ∃ j : Nat, j ≤ N0 ∧ iv = .int .i64 (j : Int) ∧ Hid (Step (fun _ => False) v2 wr)) (fun iv _ => N0 + 1 - (intOf iv).toNat)
  case atStart => exact ⟨0, Nat.zero_le _, rfl, HSv2⟩
  case round =>
    obtain ⟨j, hj, rfl, HSj⟩ := hrel
    have y0 := (HB1.out.step HSj.out id).cell 0
    have z0 := (HB2.out.step HSj.out id).cell 0
    rw [HM1.out] at y0
    rw [HM2.out] at z0
    simp [mdC] at y0 z0
    rw [← HN0.out] at y0
    rw [← KN0.out] at z0
    by_cases hlt : j < N0
    · have g1 : (j : Int) < (N0 : Int) := by omega
      have i0 : (0 : Int) ≤ (j : Int) := by omega
      have hw1 := IntWalk.i64_in ((j : Int) + 1) (by omega)
      have hjl : j < s.ts.length := by rw [← HN0.out]; exact hlt
      obtain ⟨bk, off, hA, _, hbl, hc⟩ := reads_row Ft.cells 2 (by decide) Ft.len ((RN0.out.step HSj.out (fun _ _ => id))) (k := j) hjl
      obtain ⟨bz, ofz, hZ, _, hbz, hcz⟩ := reads_row Ft.cells 2 (by decide) Ft.len ((TN0.out.step HSj.out (fun _ _ => id))) (k := j) hjl
      rw [hA] at y0
      rw [hZ] at z0
      replace hA := Lib.hid hA
      replace hZ := Lib.hid hZ
      obtain ⟨x, hx⟩ : ∃ x, x = s.ts[j] := ⟨_, rfl⟩
      rw [← hx] at hc hcz
      clear hx
      have t0 := hc 0 _ rfl
      have u0 := hcz 0 _ rfl
      have t1 := hc 1 _ rfl
      have u1 := hcz 1 _ rfl
      simp only [Nat.add_zero] at t0 u0
      clear hc hcz
      go_wp2_with fail
      go_quiet (fail)
      go_wp2_with fail
      go_roundw
      case rel => exact ⟨j + 1, by omega, by rw [Int.natCast_add]; rfl, by first | exact HSj.out.drewN _ | exact HSq.out⟩
      case measure => simp [intOf]; omega
    · obtain rfl : j = N0 := by omega
      go_wp2_with fail
      go_loopw [6] (fun iv wr => ∃ j : Nat, j ≤ N1 ∧ iv = .int .i64 (j : Int) ∧ Hid (Step (fun _ => False) v2 wr)) (fun iv _ => N1 + 1 - (intOf iv).toNat)
      case atStart => exact ⟨0, Nat.zero_le _, rfl, HSj⟩
      case round =>
        obtain ⟨j, hj, rfl, HSj⟩ := hrel
        have y1 := (HB1.out.step HSj.out id).cell 1
        have z1 := (HB2.out.step HSj.out id).cell 1
        rw [HM1.out] at y1
        rw [HM2.out] at z1
        simp [mdC] at y1 z1
        rw [← HN1.out] at y1
        rw [← KN1.out] at z1
        by_cases hlt : j < N1
        · have g1 : (j : Int) < (N1 : Int) := by omega
          have i0 : (0 : Int) ≤ (j : Int) := by omega
          have hw1 := IntWalk.i64_in ((j : Int) + 1) (by omega)
          have hjl : j < s.is.length := by rw [← HN1.out]; exact hlt
          obtain ⟨bk, off, hA, _, hbl, hc⟩ := reads_row Im.cells 9 (by decide) Im.len ((RN1.out.step HSj.out (fun _ _ => id))) (k := j) hjl
          obtain ⟨bz, ofz, hZ, _, hbz, hcz⟩ := reads_row Im.cells 9 (by decide) Im.len ((TN1.out.step HSj.out (fun _ _ => id))) (k := j) hjl
          rw [hA] at y1
          rw [hZ] at z1
          replace hA := Lib.hid hA
          replace hZ := Lib.hid hZ
          obtain ⟨x, hx⟩ : ∃ x, x = s.is[j] := ⟨_, rfl⟩
          rw [← hx] at hc hcz
          clear hx
          have t0 := hc 0 _ rfl
          have u0 := hcz 0 _ rfl
          have t1 := hc 1 _ rfl
          have u1 := hcz 1 _ rfl
          have t2 := hc 2 _ rfl
          have u2 := hcz 2 _ rfl
          have t3 := hc 3 _ rfl
          have u3 := hcz 3 _ rfl
          have t4 := hc 4 _ rfl
          have u4 := hcz 4 _ rfl
          have t5 := hc 5 _ rfl
          have u5 := hcz 5 _ rfl
          have t6 := hc 6 _ rfl
          have u6 := hcz 6 _ rfl
          have t7 := hc 7 _ rfl
          have u7 := hcz 7 _ rfl
          have t8 := hc 8 _ rfl
          have u8 := hcz 8 _ rfl
          simp only [Nat.add_zero] at t0 u0
          clear hc hcz
          go_wp2_with fail
          go_quiet (fail)
          go_wp2_with fail
          go_roundw
          case rel => exact ⟨j + 1, by omega, by rw [Int.natCast_add]; rfl, by first | exact HSj.out.drewN _ | exact HSq.out⟩
          case measure => simp [intOf]; omega
        · obtain rfl : j = N1 := by omega
          go_wp2_with fail
          go_loopw [7] (fun iv wr => ∃ j : Nat, j ≤ N2 ∧ iv = .int .i64 (j : Int) ∧ Hid (Step (fun _ => False) v2 wr)) (fun iv _ => N2 + 1 - (intOf iv).toNat)
          case atStart => exact ⟨0, Nat.zero_le _, rfl, HSj⟩
          case round =>
            obtain ⟨j, hj, rfl, HSj⟩ := hrel
            have y2 := (HB1.out.step HSj.out id).cell 2
            have z2 := (HB2.out.step HSj.out id).cell 2
            rw [HM1.out] at y2
            rw [HM2.out] at z2
            simp [mdC] at y2 z2
            rw [← HN2.out] at y2
            rw [← KN2.out] at z2
            by_cases hlt : j < N2
            · have g1 : (j : Int) < (N2 : Int) := by omega
              have i0 : (0 : Int) ≤ (j : Int) := by omega
              have hw1 := IntWalk.i64_in ((j : Int) + 1) (by omega)
              have hjl : j < s.fs.length := by rw [← HN2.out]; exact hlt
              obtain ⟨ad, u, hA, _, hbl, hu, hc⟩ := (RN2.out.step HSj.out (fun _ _ => id)).at_ hlt
              rw [u32s_get s.fs j hjl] at hu
              injection hu with hu
              subst hu
              obtain ⟨ad2, u, hZ, _, hbl2, hu, hc2⟩ := (TN2.out.step HSj.out (fun _ _ => id)).at_ hlt
              rw [u32s_get s.fs j hjl] at hu
              injection hu with hu
              subst hu
              rw [hA] at y2
              rw [hZ] at z2
              replace hA := Lib.hid hA
              replace hZ := Lib.hid hZ
              generalize s.fs[j] = x at *
              go_wp2_with fail
              go_quiet (fail)
              go_wp2_with fail
              go_roundw
              case rel => exact ⟨j + 1, by omega, by rw [Int.natCast_add]; rfl, by first | exact HSj.out.drewN _ | exact HSq.out⟩
              case measure => simp [intOf]; omega
            · obtain rfl : j = N2 := by omega
              go_wp2_with fail
              go_loopw [8] (fun iv wr => ∃ j : Nat, j ≤ 0 ∧ iv = .int .i64 (j : Int) ∧ Hid (Step (fun _ => False) v2 wr)) (fun iv _ => 0 + 1 - (intOf iv).toNat)
              case atStart => exact ⟨0, Nat.zero_le _, rfl, HSj⟩
              case round =>
                obtain ⟨j, hj, rfl, HSj⟩ := hrel
                have y3 := (HB1.out.step HSj.out id).cell 3
                have z3 := (HB2.out.step HSj.out id).cell 3
                rw [HM1.out] at y3
                rw [HM2.out] at z3
                simp [mdC] at y3 z3
                by_cases hlt : j < 0
                · have i0 : (0 : Int) ≤ (j : Int) := by omega
                  have hw1 := IntWalk.i64_in ((j : Int) + 1) (by omega)
                  exact absurd hlt (Nat.not_lt_zero _)

                · obtain rfl : j = 0 := by omega
                  go_wp2_with fail
                  go_loopw [9] (fun iv wr => ∃ j : Nat, j ≤ 0 ∧ iv = .int .i64 (j : Int) ∧ Hid (Step (fun _ => False) v2 wr)) (fun iv _ => 0 + 1 - (intOf iv).toNat)
                  case atStart => exact ⟨0, Nat.zero_le _, rfl, HSj⟩
                  case round =>
                    obtain ⟨j, hj, rfl, HSj⟩ := hrel
                    have y4 := (HB1.out.step HSj.out id).cell 4
                    have z4 := (HB2.out.step HSj.out id).cell 4
                    rw [HM1.out] at y4
                    rw [HM2.out] at z4
                    simp [mdC] at y4 z4
                    by_cases hlt : j < 0
                    · have i0 : (0 : Int) ≤ (j : Int) := by omega
                      have hw1 := IntWalk.i64_in ((j : Int) + 1) (by omega)
                      exact absurd hlt (Nat.not_lt_zero _)

                    · obtain rfl : j = 0 := by omega
                      go_wp2_with fail
                      go_loopw [10] (fun iv wr => ∃ j : Nat, j ≤ N6 ∧ iv = .int .i64 (j : Int) ∧ Hid (Step (fun _ => False) v2 wr)) (fun iv _ => N6 + 1 - (intOf iv).toNat)
                      case atStart => exact ⟨0, Nat.zero_le _, rfl, HSj⟩
                      case round =>
                        obtain ⟨j, hj, rfl, HSj⟩ := hrel
                        have y6 := (HB1.out.step HSj.out id).cell 6
                        have z6 := (HB2.out.step HSj.out id).cell 6
                        rw [HM1.out] at y6
                        rw [HM2.out] at z6
                        simp [mdC] at y6 z6
                        rw [← HN6.out] at y6
                        rw [← KN6.out] at z6
                        by_cases hlt : j < N6
                        · have g1 : (j : Int) < (N6 : Int) := by omega
                          have i0 : (0 : Int) ≤ (j : Int) := by omega
                          have hw1 := IntWalk.i64_in ((j : Int) + 1) (by omega)
                          have hjl : j < s.es.length := by rw [← HN6.out]; exact hlt
                          obtain ⟨bk, off, hA, _, hbl, hc⟩ := reads_row Ex.cells 3 (by decide) Ex.len ((RN6.out.step HSj.out (fun _ _ => id))) (k := j) hjl
                          obtain ⟨bz, ofz, hZ, _, hbz, hcz⟩ := reads_row Ex.cells 3 (by decide) Ex.len ((TN6.out.step HSj.out (fun _ _ => id))) (k := j) hjl
                          rw [hA] at y6
                          rw [hZ] at z6
                          replace hA := Lib.hid hA
                          replace hZ := Lib.hid hZ
                          obtain ⟨x, hx⟩ : ∃ x, x = s.es[j] := ⟨_, rfl⟩
                          rw [← hx] at hc hcz
                          clear hx
                          have t0 := hc 0 _ rfl
                          have u0 := hcz 0 _ rfl
                          have t1 := hc 1 _ rfl
                          have u1 := hcz 1 _ rfl
                          have t2 := hc 2 _ rfl
                          have u2 := hcz 2 _ rfl
                          simp only [Nat.add_zero] at t0 u0
                          clear hc hcz
                          go_wp2_with fail
                          go_quiet (fail)
                          go_wp2_with fail
                          go_roundw
                          case rel => exact ⟨j + 1, by omega, by rw [Int.natCast_add]; rfl, by first | exact HSj.out.drewN _ | exact HSq.out⟩
                          case measure => simp [intOf]; omega
                        · obtain rfl : j = N6 := by omega
                          go_wp2_with fail
                          go_ret
                          exact ⟨rfl, HS.out.trans HSj.out⟩
end Go.Proofs.Ytflgpjdpofmbkaa
