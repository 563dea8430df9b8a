/-
  The references' Same, where all is alike.
-/
import Derived.Test.YtflgpjdpofmbkaaCsL
set_option linter.unusedVariables false
set_option linter.unusedSimpArgs false
namespace Go.Proofs.Ytflgpjdpofmbkaa
open Go.RowKit
set_option maxRecDepth 100000 in
set_option maxHeartbeats 6400000 in
theorem isame (w : World) (op a b n c1 c2 : Nat) (A1 A2 : Option Addr) (L : List Nat) (S1 S2 : Nat → Prop) (HN : Hid (n = L.length)) (hn : n ≤ 100000) (h1 : Reads w S1 1 A1 n (u32s L)) (h2 : Reads w S2 1 A2 n (u32s L)) :
    Calls Try.prog 47 #[.agg #[Value.int .u8 (op : Int), .int .u64 (a : Int), .int .u64 (b : Int), .slice A1 n c1], .agg #[Value.int .u8 (op : Int), .int .u64 (a : Int), .int .u64 (b : Int), .slice A2 n c2]] w fun e w' => e = .returned (.bool true) ∧ Step (fun _ => False) w w' := by
  obtain ⟨v1, hv1⟩ : ∃ v1, v1 = w.alloc (.cells #[Value.int .u8 (op : Int), .int .u64 (a : Int), .int .u64 (b : Int), .slice A1 n c1] 59) := ⟨_, rfl⟩
  obtain ⟨v2, hv2⟩ : ∃ v2, v2 = v1.alloc (.cells #[Value.int .u8 (op : Int), .int .u64 (a : Int), .int .u64 (b : Int), .slice A2 n c2] 59) := ⟨_, rfl⟩
  have e0 : w.heap.size = w.heap.size := rfl
  have e1 : v1.heap.size = w.heap.size + 1 := by rw [hv1]; simp [e0]
  have s1 : Step (fun _ => False) w v1 := by rw [hv1]; exact Step.alloc Step.refl _
  have e2 : v2.heap.size = w.heap.size + 1 + 1 := by rw [hv2]; simp [e1]
  have s2 : Step (fun _ => False) v1 v2 := by rw [hv2]; exact Step.alloc Step.refl _
  have HB1 : Hid (Blk v2 (w.heap.size) 59 #[Value.int .u8 (op : Int), .int .u64 (a : Int), .int .u64 (b : Int), .slice A1 n c1]) := by
    have h1 : Blk v1 w.heap.size 59 #[Value.int .u8 (op : Int), .int .u64 (a : Int), .int .u64 (b : Int), .slice A1 n c1] := by rw [hv1]; exact Blk.new w _ _
    exact (h1.step s2 id)
  have HB2 : Hid (Blk v2 (w.heap.size + 1) 59 #[Value.int .u8 (op : Int), .int .u64 (a : Int), .int .u64 (b : Int), .slice A2 n c2]) := by
    have h1 : Blk v2 v1.heap.size 59 #[Value.int .u8 (op : Int), .int .u64 (a : Int), .int .u64 (b : Int), .slice A2 n c2] := by rw [hv2]; exact Blk.new v1 _ _
    rw [e1] at h1
    exact h1
  have HS : Hid (Step (fun _ => False) w v2) := s1 |>.trans s2
  have HE1 := Lib.hid hv1
  have HE2 := Lib.hid hv2
  clear e1 s1 hv1 e2 s2 hv2 e0
  have HSv2 : Hid (Step (fun _ => False) v2 v2) := Step.refl
  have H1 := Lib.hid (h1.step HS.out (fun _ _ => id))
  have H2 := Lib.hid (h2.step HS.out (fun _ _ => id))
  have p0 := HB1.out.cell 0
  have r0 := HB2.out.cell 0
  have p1 := HB1.out.cell 1
  have r1 := HB2.out.cell 1
  have p2 := HB1.out.cell 2
  have r2 := HB2.out.cell 2
  have p3 := HB1.out.cell 3
  have r3 := HB2.out.cell 3
  simp at p0 p1 p2 p3 r0 r1 r2 r3
  rw [HE2.out, HE1.out] at p0 p1 p2 p3 r0 r1 r2 r3
  clear h1 h2
  go_enter Try.func47, Try.ntmps47
  go_wp2_with fail
  rw [← HE1.out]
  rw [← HE2.out]
  clear p0 p1 p2 p3 r0 r1 r2 r3
  go_loopw [5] (fun iv wr => ∃ j : Nat, j ≤ n ∧ iv = .int .i64 (j : Int) ∧ Hid (Step (fun _ => False) v2 wr)) (fun iv _ => n + 1 - (intOf iv).toNat)
  case atStart => exact ⟨0, Nat.zero_le _, rfl, HSv2⟩
  case round =>
    obtain ⟨j, hj, rfl, HSj⟩ := hrel
    have y3 := (HB1.out.step HSj.out id).cell 3
    have z3 := (HB2.out.step HSj.out id).cell 3
    simp at y3 z3
    by_cases hlt : j < n
    · have g1 : (j : Int) < (n : Int) := by omega
      have i0 : (0 : Int) ≤ (j : Int) := by omega
      have hw1 := IntWalk.i64_in ((j : Int) + 1) (by omega)
      have hjl : j < L.length := by rw [← HN.out]; exact hlt
      obtain ⟨ad, u, rfl, _, hbl, hu, hc⟩ := (H1.out.step HSj.out (fun _ _ => id)).at_ hlt
      rw [u32s_get L j hjl] at hu
      injection hu with hu
      subst hu
      obtain ⟨ad2, u, rfl, _, hbl2, hu, hc2⟩ := (H2.out.step HSj.out (fun _ _ => id)).at_ hlt
      rw [u32s_get L j hjl] at hu
      injection hu with hu
      subst hu
      generalize L[j] = x at *
      go_wp2_with fail
      go_quiet (fail)
      go_wp2_with fail
      go_roundw
      case rel => exact ⟨j + 1, by omega, by rw [Int.natCast_add]; rfl, by first | exact HSj.out.drewN _ | exact HSq.out⟩
      case measure => simp [intOf]; omega
    · obtain rfl : j = n := by omega
      go_wp2_with fail
      go_ret
      exact ⟨rfl, HS.out.trans HSj.out⟩
set_option maxRecDepth 100000 in
set_option maxHeartbeats 6400000 in
theorem sall (w : World) (n c d : Nat) (A B : Option Addr) (l : List Ig) (S T S1 : Nat → Prop) (HN : Hid (n = l.length)) (hn : n ≤ 100000) (h1 : Reads w S 4 A n (igs l)) (h2 : Reads w T 4 B n (igs l)) (hx : ∀ g ∈ l, g.n ≤ 100000 ∧ g.n = g.L.length ∧ Reads w S1 1 g.A g.n (u32s g.L)) :
    Calls Try.prog 48 #[.slice A n c, .slice B n d] w fun e w' => e = .returned (.bool true) ∧ Step (fun _ => False) w w' := by
  have HSw : Hid (Step (fun _ => False) w w) := Step.refl
  have HS := HSw
  have H1 := Lib.hid h1
  have H2 := Lib.hid h2
  have HX := Lib.hid hx
  clear h1 h2 hx
  go_enter Try.func48, Try.ntmps48
  go_wp2_with fail
  go_loopw [5] (fun iv wr => ∃ j : Nat, j ≤ n ∧ iv = .int .i64 (j : Int) ∧ Hid (Step (fun _ => False) w wr)) (fun iv _ => n + 1 - (intOf iv).toNat)
  case atStart => exact ⟨0, Nat.zero_le _, rfl, HSw⟩
  case round =>
    obtain ⟨j, hj, rfl, HSj⟩ := hrel

    by_cases hlt : j < n
    · have g1 : (j : Int) < (n : Int) := by omega
      have i0 : (0 : Int) ≤ (j : Int) := by omega
      have hw1 := IntWalk.i64_in ((j : Int) + 1) (by omega)
      have hjl : j < l.length := by rw [← HN.out]; exact hlt
      obtain ⟨bk, off, hA, _, hbl, hc⟩ := reads_row Ig.cells 4 (by decide) Ig.len ((H1.out.step HSj.out (fun _ _ => id))) (k := j) hjl
      obtain ⟨bz, ofz, hZ, _, hbz, hcz⟩ := reads_row Ig.cells 4 (by decide) Ig.len ((H2.out.step HSj.out (fun _ _ => id))) (k := j) hjl
      subst hA hZ
      have hm := HX.out _ (List.getElem_mem hjl)
      obtain ⟨x, hx⟩ : ∃ x, x = l[j] := ⟨_, rfl⟩
      rw [← hx] at hc hcz hm
      clear hx
      have HSm : Hid (∀ w', Step (fun _ => False) w w' → _) := fun w' h' => isame w' x.op x.a x.b x.n x.c x.c x.A x.A x.L S1 S1 hm.2.1 hm.1 (hm.2.2.step h' (fun _ _ => id)) (hm.2.2.step h' (fun _ _ => id))
      have t0 := hc 0 _ rfl
      have u0 := hcz 0 _ rfl
      have t1 := hc 1 _ rfl
      have u1 := hcz 1 _ rfl
      have t2 := hc 2 _ rfl
      have u2 := hcz 2 _ rfl
      have t3 := hc 3 _ rfl
      have u3 := hcz 3 _ rfl
      simp only [Nat.add_zero] at t0 u0
      clear hc hcz
      have d0 := cls_cell (F := fun _ => False) t0 id
      have f0 := cls_cell (F := fun _ => False) u0 id
      have d1 := cls_cell (F := fun _ => False) t1 id
      have f1 := cls_cell (F := fun _ => False) u1 id
      have d2 := cls_cell (F := fun _ => False) t2 id
      have f2 := cls_cell (F := fun _ => False) u2 id
      have d3 := cls_cell (F := fun _ => False) t3 id
      have f3 := cls_cell (F := fun _ => False) u3 id
      clear t0 t1 t2 t3 u0 u1 u2 u3 hm
      go_wp2_with fail
      refine Mix.wp_region_mix [8] [8] (Step (fun _ => False) wr) (by kernel_rfl) (by kernel_rfl) (Step.refl.drew) (fun hcls => ?_)
      refine Mix.wpL_reads 8 (by rfl) ?_
      simp only [List.take_succ_cons, List.drop_succ_cons, List.take_zero, List.drop_zero]
      repeat (go_big_quiet_step (fail))
      refine wpQuiet_nil ?_
      refine Mix.wpL_op (by rfl) (fun K hK => ?_)
      go_simp
      refine (HSm.out _ (HSj.out.trans Step.refl.drew)).mono ?_
      rintro e wd ⟨rfl, hSd⟩
      have HSd := Lib.hid (Step.refl.drew.trans hSd)
      refine hK _ _ (fun hlt => Mix.cl (HSd.out)) ?_
      clear hK K
      clear hSd
      refine Mix.wpL_reads 1 (by rfl) ?_
      simp only [List.take_succ_cons, List.drop_succ_cons, List.take_zero, List.drop_zero]
      repeat (go_big_quiet_step (fail))
      refine wpQuiet_nil ?_
      refine Mix.wpL_end ?_
      have HSq := Lib.hid (HSj.out.trans HSd.out)
      go_wp2_with fail
      go_roundw
      case rel => exact ⟨j + 1, by omega, by rw [Int.natCast_add]; rfl, by first | exact HSj.out.drewN _ | exact HSq.out⟩
      case measure => simp [intOf]; omega
    · obtain rfl : j = n := by omega
      go_wp2_with fail
      go_ret
      exact ⟨rfl, HSj.out⟩
set_option maxRecDepth 100000 in
set_option maxHeartbeats 6400000 in
theorem gsame (w : World) (x : Gl) :
    Calls Try.prog 31 #[.agg #[Value.int .u8 (x.t : Int), .bool x.m, .int .u8 (x.op : Int), .int .u64 (x.a : Int), .int .u64 0, .slice none 0 0], .agg #[Value.int .u8 (x.t : Int), .bool x.m, .int .u8 (x.op : Int), .int .u64 (x.a : Int), .int .u64 0, .slice none 0 0]] w fun e w' => e = .returned (.bool true) ∧ Step (fun _ => False) w w' := by
  obtain ⟨v1, hv1⟩ : ∃ v1, v1 = w.alloc (.cells #[Value.int .u8 (x.t : Int), .bool x.m, .int .u8 (x.op : Int), .int .u64 (x.a : Int), .int .u64 0, .slice none 0 0] 73) := ⟨_, rfl⟩
  obtain ⟨v2, hv2⟩ : ∃ v2, v2 = v1.alloc (.cells #[Value.int .u8 (x.t : Int), .bool x.m, .int .u8 (x.op : Int), .int .u64 (x.a : Int), .int .u64 0, .slice none 0 0] 73) := ⟨_, rfl⟩
  have e0 : w.heap.size = w.heap.size := rfl
  have e1 : v1.heap.size = w.heap.size + 1 := by rw [hv1]; simp [e0]
  have s1 : Step (fun _ => False) w v1 := by rw [hv1]; exact Step.alloc Step.refl _
  have e2 : v2.heap.size = w.heap.size + 1 + 1 := by rw [hv2]; simp [e1]
  have s2 : Step (fun _ => False) v1 v2 := by rw [hv2]; exact Step.alloc Step.refl _
  have HB1 : Hid (Blk v2 (w.heap.size) 73 #[Value.int .u8 (x.t : Int), .bool x.m, .int .u8 (x.op : Int), .int .u64 (x.a : Int), .int .u64 0, .slice none 0 0]) := by
    have h1 : Blk v1 w.heap.size 73 #[Value.int .u8 (x.t : Int), .bool x.m, .int .u8 (x.op : Int), .int .u64 (x.a : Int), .int .u64 0, .slice none 0 0] := by rw [hv1]; exact Blk.new w _ _
    exact (h1.step s2 id)
  have HB2 : Hid (Blk v2 (w.heap.size + 1) 73 #[Value.int .u8 (x.t : Int), .bool x.m, .int .u8 (x.op : Int), .int .u64 (x.a : Int), .int .u64 0, .slice none 0 0]) := by
    have h1 : Blk v2 v1.heap.size 73 #[Value.int .u8 (x.t : Int), .bool x.m, .int .u8 (x.op : Int), .int .u64 (x.a : Int), .int .u64 0, .slice none 0 0] := by rw [hv2]; exact Blk.new v1 _ _
    rw [e1] at h1
    exact h1
  have HS : Hid (Step (fun _ => False) w v2) := s1 |>.trans s2
  have HE1 := Lib.hid hv1
  have HE2 := Lib.hid hv2
  clear e1 s1 hv1 e2 s2 hv2 e0
  have HSm := Lib.hid (isame v2 x.op x.a 0 0 0 0 none none [] (fun _ => True) (fun _ => True) rfl (by decide) Reads.nil_ Reads.nil_)
  have p0 := HB1.out.cell 0
  have r0 := HB2.out.cell 0
  have p1 := HB1.out.cell 1
  have r1 := HB2.out.cell 1
  have p2 := HB1.out.cell 2
  have r2 := HB2.out.cell 2
  have p3 := HB1.out.cell 3
  have r3 := HB2.out.cell 3
  have p4 := HB1.out.cell 4
  have r4 := HB2.out.cell 4
  have p5 := HB1.out.cell 5
  have r5 := HB2.out.cell 5
  simp at p0 r0 p1 r1 p2 r2 p3 r3 p4 r4 p5 r5
  rw [HE2.out, HE1.out] at p0 r0 p1 r1 p2 r2 p3 r3 p4 r4 p5 r5
  go_enter Try.func31, Try.ntmps31
  go_wp2_with fail
  rw [← HE1.out]
  rw [← HE2.out]
  refine HSm.out.mono ?_
  rintro e w3 ⟨rfl, hs3⟩
  go_wp2_with fail
  go_ret
  exact ⟨rfl, HS.out.trans hs3⟩
set_option maxRecDepth 100000 in
set_option maxHeartbeats 6400000 in
theorem dsame (w : World) (x : Da) :
    Calls Try.prog 34 #[.agg #[Value.int .u8 35, .int .u64 (x.g : Int), .int .u64 0, .slice none 0 0, .string (str x.s)], .agg #[Value.int .u8 35, .int .u64 (x.g : Int), .int .u64 0, .slice none 0 0, .string (str x.s)]] w fun e w' => e = .returned (.bool true) ∧ Step (fun _ => False) w w' := by
  obtain ⟨v1, hv1⟩ : ∃ v1, v1 = w.alloc (.cells #[Value.int .u8 35, .int .u64 (x.g : Int), .int .u64 0, .slice none 0 0, .string (str x.s)] 86) := ⟨_, rfl⟩
  obtain ⟨v2, hv2⟩ : ∃ v2, v2 = v1.alloc (.cells #[Value.int .u8 35, .int .u64 (x.g : Int), .int .u64 0, .slice none 0 0, .string (str x.s)] 86) := ⟨_, rfl⟩
  have e0 : w.heap.size = w.heap.size := rfl
  have e1 : v1.heap.size = w.heap.size + 1 := by rw [hv1]; simp [e0]
  have s1 : Step (fun _ => False) w v1 := by rw [hv1]; exact Step.alloc Step.refl _
  have e2 : v2.heap.size = w.heap.size + 1 + 1 := by rw [hv2]; simp [e1]
  have s2 : Step (fun _ => False) v1 v2 := by rw [hv2]; exact Step.alloc Step.refl _
  have HB1 : Hid (Blk v2 (w.heap.size) 86 #[Value.int .u8 35, .int .u64 (x.g : Int), .int .u64 0, .slice none 0 0, .string (str x.s)]) := by
    have h1 : Blk v1 w.heap.size 86 #[Value.int .u8 35, .int .u64 (x.g : Int), .int .u64 0, .slice none 0 0, .string (str x.s)] := by rw [hv1]; exact Blk.new w _ _
    exact (h1.step s2 id)
  have HB2 : Hid (Blk v2 (w.heap.size + 1) 86 #[Value.int .u8 35, .int .u64 (x.g : Int), .int .u64 0, .slice none 0 0, .string (str x.s)]) := by
    have h1 : Blk v2 v1.heap.size 86 #[Value.int .u8 35, .int .u64 (x.g : Int), .int .u64 0, .slice none 0 0, .string (str x.s)] := by rw [hv2]; exact Blk.new v1 _ _
    rw [e1] at h1
    exact h1
  have HS : Hid (Step (fun _ => False) w v2) := s1 |>.trans s2
  have HE1 := Lib.hid hv1
  have HE2 := Lib.hid hv2
  clear e1 s1 hv1 e2 s2 hv2 e0
  have HSm := Lib.hid (isame v2 35 x.g 0 0 0 0 none none [] (fun _ => True) (fun _ => True) rfl (by decide) Reads.nil_ Reads.nil_)
  have p0 := HB1.out.cell 0
  have r0 := HB2.out.cell 0
  have p1 := HB1.out.cell 1
  have r1 := HB2.out.cell 1
  have p2 := HB1.out.cell 2
  have r2 := HB2.out.cell 2
  have p3 := HB1.out.cell 3
  have r3 := HB2.out.cell 3
  have p4 := HB1.out.cell 4
  have r4 := HB2.out.cell 4
  simp at p0 r0 p1 r1 p2 r2 p3 r3 p4 r4
  rw [HE2.out, HE1.out] at p0 r0 p1 r1 p2 r2 p3 r3 p4 r4
  go_enter Try.func34, Try.ntmps34
  go_wp2_with fail
  rw [← HE1.out]
  rw [← HE2.out]
  refine HSm.out.mono ?_
  rintro e w3 ⟨rfl, hs3⟩
  go_wp2_with fail
  go_ret
  exact ⟨rfl, HS.out.trans hs3⟩
set_option maxRecDepth 100000 in
set_option maxHeartbeats 6400000 in
theorem esame (w : World) (g f n c1 c2 : Nat) (A1 A2 : Option Addr) (S1 S2 : Nat → Prop) (HN : Hid (n = [f].length)) (hn2 : n ≤ 1) (h1 : Reads w S1 1 A1 n (u32s [f])) (h2 : Reads w S2 1 A2 n (u32s [f])) :
    Calls Try.prog 32 #[.agg #[Value.int .u8 35, .int .u64 (g : Int), .int .u64 0, .slice none 0 0, .slice A1 n c1], .agg #[Value.int .u8 35, .int .u64 (g : Int), .int .u64 0, .slice none 0 0, .slice A2 n c2]] w fun e w' => e = .returned (.bool true) ∧ Step (fun _ => False) w w' := by
  obtain ⟨v1, hv1⟩ : ∃ v1, v1 = w.alloc (.cells #[Value.int .u8 35, .int .u64 (g : Int), .int .u64 0, .slice none 0 0, .slice A1 n c1] 79) := ⟨_, rfl⟩
  obtain ⟨v2, hv2⟩ : ∃ v2, v2 = v1.alloc (.cells #[Value.int .u8 35, .int .u64 (g : Int), .int .u64 0, .slice none 0 0, .slice A2 n c2] 79) := ⟨_, rfl⟩
  have e0 : w.heap.size = w.heap.size := rfl
  have e1 : v1.heap.size = w.heap.size + 1 := by rw [hv1]; simp [e0]
  have s1 : Step (fun _ => False) w v1 := by rw [hv1]; exact Step.alloc Step.refl _
  have e2 : v2.heap.size = w.heap.size + 1 + 1 := by rw [hv2]; simp [e1]
  have s2 : Step (fun _ => False) v1 v2 := by rw [hv2]; exact Step.alloc Step.refl _
  have HB1 : Hid (Blk v2 (w.heap.size) 79 #[Value.int .u8 35, .int .u64 (g : Int), .int .u64 0, .slice none 0 0, .slice A1 n c1]) := by
    have h1 : Blk v1 w.heap.size 79 #[Value.int .u8 35, .int .u64 (g : Int), .int .u64 0, .slice none 0 0, .slice A1 n c1] := by rw [hv1]; exact Blk.new w _ _
    exact (h1.step s2 id)
  have HB2 : Hid (Blk v2 (w.heap.size + 1) 79 #[Value.int .u8 35, .int .u64 (g : Int), .int .u64 0, .slice none 0 0, .slice A2 n c2]) := by
    have h1 : Blk v2 v1.heap.size 79 #[Value.int .u8 35, .int .u64 (g : Int), .int .u64 0, .slice none 0 0, .slice A2 n c2] := by rw [hv2]; exact Blk.new v1 _ _
    rw [e1] at h1
    exact h1
  have HS : Hid (Step (fun _ => False) w v2) := s1 |>.trans s2
  have HE1 := Lib.hid hv1
  have HE2 := Lib.hid hv2
  clear e1 s1 hv1 e2 s2 hv2 e0
  have HSm := Lib.hid (isame v2 35 g 0 0 0 0 none none [] (fun _ => True) (fun _ => True) rfl (by decide) Reads.nil_ Reads.nil_)
  have H1 := Lib.hid (h1.step HS.out (fun _ _ => id))
  have H2 := Lib.hid (h2.step HS.out (fun _ _ => id))
  have p0 := HB1.out.cell 0
  have r0 := HB2.out.cell 0
  have p1 := HB1.out.cell 1
  have r1 := HB2.out.cell 1
  have p2 := HB1.out.cell 2
  have r2 := HB2.out.cell 2
  have p3 := HB1.out.cell 3
  have r3 := HB2.out.cell 3
  have p4 := HB1.out.cell 4
  have r4 := HB2.out.cell 4
  simp at p0 r0 p1 r1 p2 r2 p3 r3 p4 r4
  rw [HE2.out, HE1.out] at p0 r0 p1 r1 p2 r2 p3 r3 p4 r4
  clear h1 h2
  go_enter Try.func32, Try.ntmps32
  go_wp2_with fail
  rw [← HE1.out]
  rw [← HE2.out]
  clear p0 r0 p1 r1 p2 r2 p3 r3 p4 r4
  refine HSm.out.mono ?_
  rintro e w3 ⟨rfl, hs3⟩
  have HS3 := Lib.hid hs3
  have HSw3 : Hid (Step (fun _ => False) w3 w3) := Step.refl
  replace H1 := Lib.hid (H1.out.step hs3 (fun _ _ => id))
  replace H2 := Lib.hid (H2.out.step hs3 (fun _ _ => id))
  replace HB1 := Lib.hid (HB1.out.step hs3 id)
  replace HB2 := Lib.hid (HB2.out.step hs3 id)
  clear hs3
  have y4 := HB1.out.cell 4
  have z4 := HB2.out.cell 4
  simp at y4 z4
  go_wp2_with fail
  clear y4 z4
  go_loopw [5] (fun iv wr => ∃ j : Nat, j ≤ n ∧ iv = .int .i64 (j : Int) ∧ Hid (Step (fun _ => False) w3 wr)) (fun iv _ => n + 1 - (intOf iv).toNat)
  case atStart => exact ⟨0, Nat.zero_le _, rfl, HSw3⟩
  case round =>
    obtain ⟨j, hj, rfl, HSj⟩ := hrel
    have y3 := (HB1.out.step HSj.out id).cell 4
    have z3 := (HB2.out.step HSj.out id).cell 4
    simp at y3 z3
    by_cases hlt : j < n
    · have g1 : (j : Int) < (n : Int) := by omega
      have i0 : (0 : Int) ≤ (j : Int) := by omega
      have hw1 := IntWalk.i64_in ((j : Int) + 1) (by omega)
      have hjl : j < [f].length := by rw [← HN.out]; exact hlt
      obtain ⟨ad, u, rfl, _, hbl, hu, hc⟩ := (H1.out.step HSj.out (fun _ _ => id)).at_ hlt
      rw [u32s_get [f] j hjl] at hu
      injection hu with hu
      subst hu
      obtain ⟨ad2, u, rfl, _, hbl2, hu, hc2⟩ := (H2.out.step HSj.out (fun _ _ => id)).at_ hlt
      rw [u32s_get [f] j hjl] at hu
      injection hu with hu
      subst hu
      generalize [f][j] = x at *
      go_wp2_with fail
      go_quiet (fail)
      go_wp2_with fail
      go_roundw
      case rel => exact ⟨j + 1, by omega, by rw [Int.natCast_add]; rfl, by first | exact HSj.out.drewN _ | exact HSq.out⟩
      case measure => simp [intOf]; omega
    · obtain rfl : j = n := by omega
      go_wp2_with fail
      go_ret
      exact ⟨rfl, (HS.out.trans HS3.out).trans HSj.out⟩
set_option maxRecDepth 100000 in
set_option maxHeartbeats 6400000 in
theorem csame (w : World) (n m c1 c2 d1 d2 : Nat) (A1 A2 B1 B2 : Option Addr) (lo : List UInt8) (bo : List Ig) (S1 S2 T1 T2 S3 : Nat → Prop) (HN : Hid (n = lo.length)) (HM : Hid (m = bo.length)) (hn : n ≤ 100000) (hm : m ≤ 100000)
    (h1 : Reads w S1 2 A1 n (locs lo)) (h2 : Reads w S2 2 A2 n (locs lo)) (k1 : Reads w T1 4 B1 m (igs bo)) (k2 : Reads w T2 4 B2 m (igs bo)) (hx : ∀ g ∈ bo, g.n ≤ 100000 ∧ g.n = g.L.length ∧ Reads w S3 1 g.A g.n (u32s g.L)) :
    Calls Try.prog 33 #[.agg #[Value.slice A1 n c1, .slice B1 m d1], .agg #[Value.slice A2 n c2, .slice B2 m d2]] w fun e w' => e = .returned (.bool true) ∧ Step (fun _ => False) w w' := by
  obtain ⟨v1, hv1⟩ : ∃ v1, v1 = w.alloc (.cells #[Value.slice A1 n c1, .slice B1 m d1] 83) := ⟨_, rfl⟩
  obtain ⟨v2, hv2⟩ : ∃ v2, v2 = v1.alloc (.cells #[Value.slice A2 n c2, .slice B2 m d2] 83) := ⟨_, rfl⟩
  have e0 : w.heap.size = w.heap.size := rfl
  have e1 : v1.heap.size = w.heap.size + 1 := by rw [hv1]; simp [e0]
  have s1 : Step (fun _ => False) w v1 := by rw [hv1]; exact Step.alloc Step.refl _
  have e2 : v2.heap.size = w.heap.size + 1 + 1 := by rw [hv2]; simp [e1]
  have s2 : Step (fun _ => False) v1 v2 := by rw [hv2]; exact Step.alloc Step.refl _
  have HB1 : Hid (Blk v2 (w.heap.size) 83 #[Value.slice A1 n c1, .slice B1 m d1]) := by
    have h1 : Blk v1 w.heap.size 83 #[Value.slice A1 n c1, .slice B1 m d1] := by rw [hv1]; exact Blk.new w _ _
    exact (h1.step s2 id)
  have HB2 : Hid (Blk v2 (w.heap.size + 1) 83 #[Value.slice A2 n c2, .slice B2 m d2]) := by
    have h1 : Blk v2 v1.heap.size 83 #[Value.slice A2 n c2, .slice B2 m d2] := by rw [hv2]; exact Blk.new v1 _ _
    rw [e1] at h1
    exact h1
  have HS : Hid (Step (fun _ => False) w v2) := s1 |>.trans s2
  have HE1 := Lib.hid hv1
  have HE2 := Lib.hid hv2
  clear e1 s1 hv1 e2 s2 hv2 e0
  have HSm := Lib.hid (sall v2 m d1 d2 B1 B2 bo _ _ S3 HM hm (k1.step HS.out (fun _ _ => id)) (k2.step HS.out (fun _ _ => id)) (fun g hg => ⟨(hx g hg).1, (hx g hg).2.1, (hx g hg).2.2.step HS.out (fun _ _ => id)⟩))
  have H1 := Lib.hid (h1.step HS.out (fun _ _ => id))
  have H2 := Lib.hid (h2.step HS.out (fun _ _ => id))
  have p0 := HB1.out.cell 0
  have r0 := HB2.out.cell 0
  have p1 := HB1.out.cell 1
  have r1 := HB2.out.cell 1
  simp at p0 r0 p1 r1
  rw [HE2.out, HE1.out] at p0 r0 p1 r1
  clear h1 h2 k1 k2 hx
  go_enter Try.func33, Try.ntmps33
  go_wp2_with fail
  rw [← HE1.out]
  rw [← HE2.out]
  clear p0 r0 p1 r1
  refine HSm.out.mono ?_
  rintro e w3 ⟨rfl, hs3⟩
  have HS3 := Lib.hid hs3
  have HSw3 : Hid (Step (fun _ => False) w3 w3) := Step.refl
  replace H1 := Lib.hid (H1.out.step hs3 (fun _ _ => id))
  replace H2 := Lib.hid (H2.out.step hs3 (fun _ _ => id))
  replace HB1 := Lib.hid (HB1.out.step hs3 id)
  replace HB2 := Lib.hid (HB2.out.step hs3 id)
  have y4 := HB1.out.cell 0
  have z4 := HB2.out.cell 0
  simp at y4 z4
  clear hs3
  go_wp2_with fail
  clear y4 z4
  go_loopw [5] (fun iv wr => ∃ j : Nat, j ≤ n ∧ iv = .int .i64 (j : Int) ∧ Hid (Step (fun _ => False) w3 wr)) (fun iv _ => n + 1 - (intOf iv).toNat)
  case atStart => exact ⟨0, Nat.zero_le _, rfl, HSw3⟩
  case round =>
    obtain ⟨j, hj, rfl, HSj⟩ := hrel
    have y3 := (HB1.out.step HSj.out id).cell 0
    have z3 := (HB2.out.step HSj.out id).cell 0
    simp at y3 z3
    by_cases hlt : j < n
    · have g1 : (j : Int) < (n : Int) := by omega
      have i0 : (0 : Int) ≤ (j : Int) := by omega
      have hw1 := IntWalk.i64_in ((j : Int) + 1) (by omega)
      have hjl : j < lo.length := by rw [← HN.out]; exact hlt
      obtain ⟨bk, off, hA, _, hbl, hc⟩ := reads_row locC 2 (by decide) locC_len ((H1.out.step HSj.out (fun _ _ => id))) (k := j) hjl
      obtain ⟨bz, ofz, hZ, _, hbz, hcz⟩ := reads_row locC 2 (by decide) locC_len ((H2.out.step HSj.out (fun _ _ => id))) (k := j) hjl
      subst hA hZ
      obtain ⟨x, hx⟩ : ∃ x, x = lo[j] := ⟨_, rfl⟩
      rw [← hx] at hc hcz
      clear hx
      have t0 := hc 0 _ rfl
      have u0 := hcz 0 _ rfl
      have t1 := hc 1 _ rfl
      have u1 := hcz 1 _ rfl
      simp only [Nat.add_zero] at t0 u0
      clear hc hcz
      go_wp2_with fail
      go_quiet (fail)
      go_wp2_with fail
      go_roundw
      case rel => exact ⟨j + 1, by omega, by rw [Int.natCast_add]; rfl, by first | exact HSj.out.drewN _ | exact HSq.out⟩
      case measure => simp [intOf]; omega
    · obtain rfl : j = n := by omega
      go_wp2_with fail
      go_ret
      exact ⟨rfl, (HS.out.trans HS3.out).trans HSj.out⟩
set_option maxRecDepth 100000 in
set_option maxHeartbeats 6400000 in
theorem ysame (w : World) (m1 m2 m3 m4 n c1 c2 : Nat) (A1 A2 : Option Addr) (L : List (List UInt8)) (S1 S2 : Nat → Prop) (HN : Hid (n = L.length)) (hn : n ≤ 100000) (h1 : Reads w S1 1 A1 n (strs L)) (h2 : Reads w S2 1 A2 n (strs L)) :
    Calls Try.prog 30 #[.agg #[Value.bool true, .int .u32 (m1 : Int), .int .u32 (m2 : Int), .int .u32 (m3 : Int), .int .u32 (m4 : Int), .slice A1 n c1], .agg #[Value.bool true, .int .u32 (m1 : Int), .int .u32 (m2 : Int), .int .u32 (m3 : Int), .int .u32 (m4 : Int), .slice A2 n c2]] w fun e w' => e = .returned (.bool true) ∧ Step (fun _ => False) w w' := by
  obtain ⟨v1, hv1⟩ : ∃ v1, v1 = w.alloc (.cells #[Value.bool true, .int .u32 (m1 : Int), .int .u32 (m2 : Int), .int .u32 (m3 : Int), .int .u32 (m4 : Int), .slice A1 n c1] 39) := ⟨_, rfl⟩
  obtain ⟨v2, hv2⟩ : ∃ v2, v2 = v1.alloc (.cells #[Value.bool true, .int .u32 (m1 : Int), .int .u32 (m2 : Int), .int .u32 (m3 : Int), .int .u32 (m4 : Int), .slice A2 n c2] 39) := ⟨_, rfl⟩
  have e0 : w.heap.size = w.heap.size := rfl
  have e1 : v1.heap.size = w.heap.size + 1 := by rw [hv1]; simp [e0]
  have s1 : Step (fun _ => False) w v1 := by rw [hv1]; exact Step.alloc Step.refl _
  have e2 : v2.heap.size = w.heap.size + 1 + 1 := by rw [hv2]; simp [e1]
  have s2 : Step (fun _ => False) v1 v2 := by rw [hv2]; exact Step.alloc Step.refl _
  have HB1 : Hid (Blk v2 (w.heap.size) 39 #[Value.bool true, .int .u32 (m1 : Int), .int .u32 (m2 : Int), .int .u32 (m3 : Int), .int .u32 (m4 : Int), .slice A1 n c1]) := by
    have h1 : Blk v1 w.heap.size 39 #[Value.bool true, .int .u32 (m1 : Int), .int .u32 (m2 : Int), .int .u32 (m3 : Int), .int .u32 (m4 : Int), .slice A1 n c1] := by rw [hv1]; exact Blk.new w _ _
    exact (h1.step s2 id)
  have HB2 : Hid (Blk v2 (w.heap.size + 1) 39 #[Value.bool true, .int .u32 (m1 : Int), .int .u32 (m2 : Int), .int .u32 (m3 : Int), .int .u32 (m4 : Int), .slice A2 n c2]) := by
    have h1 : Blk v2 v1.heap.size 39 #[Value.bool true, .int .u32 (m1 : Int), .int .u32 (m2 : Int), .int .u32 (m3 : Int), .int .u32 (m4 : Int), .slice A2 n c2] := by rw [hv2]; exact Blk.new v1 _ _
    rw [e1] at h1
    exact h1
  have HS : Hid (Step (fun _ => False) w v2) := s1 |>.trans s2
  have HE1 := Lib.hid hv1
  have HE2 := Lib.hid hv2
  clear e1 s1 hv1 e2 s2 hv2 e0
  have HSv2 : Hid (Step (fun _ => False) v2 v2) := Step.refl
  have H1 := Lib.hid (h1.step HS.out (fun _ _ => id))
  have H2 := Lib.hid (h2.step HS.out (fun _ _ => id))
  have p0 := HB1.out.cell 0
  have r0 := HB2.out.cell 0
  have p1 := HB1.out.cell 1
  have r1 := HB2.out.cell 1
  have p2 := HB1.out.cell 2
  have r2 := HB2.out.cell 2
  have p3 := HB1.out.cell 3
  have r3 := HB2.out.cell 3
  have p4 := HB1.out.cell 4
  have r4 := HB2.out.cell 4
  have p5 := HB1.out.cell 5
  have r5 := HB2.out.cell 5
  simp at p0 r0 p1 r1 p2 r2 p3 r3 p4 r4 p5 r5
  rw [HE2.out, HE1.out] at p0 r0 p1 r1 p2 r2 p3 r3 p4 r4 p5 r5
  clear h1 h2
  go_enter Try.func30, Try.ntmps30
  go_wp2_with fail
  rw [← HE1.out]
  rw [← HE2.out]
  clear p0 r0 p1 r1 p2 r2 p3 r3 p4 r4 p5 r5
  go_loopw [5] (fun iv wr => ∃ j : Nat, j ≤ n ∧ iv = .int .i64 (j : Int) ∧ Hid (Step (fun _ => False) v2 wr)) (fun iv _ => n + 1 - (intOf iv).toNat)
  case atStart => exact ⟨0, Nat.zero_le _, rfl, HSv2⟩
  case round =>
    obtain ⟨j, hj, rfl, HSj⟩ := hrel
    have y3 := (HB1.out.step HSj.out id).cell 5
    have z3 := (HB2.out.step HSj.out id).cell 5
    simp at y3 z3
    by_cases hlt : j < n
    · have g1 : (j : Int) < (n : Int) := by omega
      have i0 : (0 : Int) ≤ (j : Int) := by omega
      have hw1 := IntWalk.i64_in ((j : Int) + 1) (by omega)
      have hjl : j < L.length := by rw [← HN.out]; exact hlt
      obtain ⟨ad, u, rfl, _, hbl, hu, hc⟩ := (H1.out.step HSj.out (fun _ _ => id)).at_ hlt
      rw [strs_get L j hjl] at hu
      injection hu with hu
      subst hu
      obtain ⟨ad2, u, rfl, _, hbl2, hu, hc2⟩ := (H2.out.step HSj.out (fun _ _ => id)).at_ hlt
      rw [strs_get L j hjl] at hu
      injection hu with hu
      subst hu
      generalize L[j] = x at *
      go_wp2_with fail
      go_quiet (fail)
      go_wp2_with fail
      go_roundw
      case rel => exact ⟨j + 1, by omega, by rw [Int.natCast_add]; rfl, by first | exact HSj.out.drewN _ | exact HSq.out⟩
      case measure => simp [intOf]; omega
    · obtain rfl : j = n := by omega
      go_wp2_with fail
      go_ret
      exact ⟨rfl, HS.out.trans HSj.out⟩
end Go.Proofs.Ytflgpjdpofmbkaa
