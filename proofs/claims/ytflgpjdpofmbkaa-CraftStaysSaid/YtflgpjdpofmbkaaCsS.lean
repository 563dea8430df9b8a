/-
  creellaw47: do, kind 12.
-/
import Derived.Test.YtflgpjdpofmbkaaCsQ
set_option linter.unusedVariables false
set_option linter.unusedSimpArgs false
namespace Go.Proofs.Ytflgpjdpofmbkaa
open Go.RowKit
section
variable (T : Nat → Prop) (w : World) (B X : Nat) (a : Ad) (s : Mo) (tk vr : Int) (am : Ad) (m : Mo)

set_option maxRecDepth 100000 in
set_option maxHeartbeats 12800000 in
theorem do12 (h : St T w B X a s tk vr am m) (hB : B ≤ w.heap.size) (hl : s.small 900) (o : Opx) (ho : o.ok w (Old T w))  :
    Calls Try.prog 9 #[.pointer (some ⟨X, 0, none⟩), .agg (mdC am m), .agg #[.int .i64 12, .string (str o.s), .int .u32 (o.n : Int), .int .u32 (o.n2 : Int), .string (str o.t.p), .string (str o.t.r), .string (str o.lo), .slice o.A o.bo.length o.c, .int .u8 (o.vt : Int), .int .u64 (o.vn : Int), .bool o.mu]] w (DOut T w B X a s) := by
  have hlm := h.al.small hl
  obtain ⟨l0, l1, l2, l5, l6, l8, l9, l10, l16⟩ := hl
  obtain ⟨k0, k1, k2, k5, k6, k8, k9, k10, k16⟩ := hlm
  have hl' : s.small 1000 := ⟨by omega, by omega, by omega, by omega, by omega, by omega, by omega, by omega, by omega⟩
  have HLS := Lib.hid hl'
  have HA := Lib.hid h.al
  have HH := Lib.hid h
  have HO := Lib.hid ho
  have hn1 := ho.n
  have hn2 := ho.n2
  have hw64 := IntWalk.u64_in (o.n : Int) (by omega)
  obtain ⟨v1, hv1⟩ : ∃ v1, v1 = w.alloc (.cells (mdC am m) 41) := ⟨_, rfl⟩
  obtain ⟨v2, hv2⟩ : ∃ v2, v2 = v1.alloc (.cells #[.int .i64 12, .string (str o.s), .int .u32 (o.n : Int), .int .u32 (o.n2 : Int), .string (str o.t.p), .string (str o.t.r), .string (str o.lo), .slice o.A o.bo.length o.c, .int .u8 (o.vt : Int), .int .u64 (o.vn : Int), .bool o.mu] 52) := ⟨_, rfl⟩
  obtain ⟨v3, hv3⟩ : ∃ v3, v3 = v2.alloc (.cells #[.slice none 0 0, .slice none 0 0, .slice none 0 0, .slice none 0 0, .slice none 0 0, .slice none 0 0, .slice none 0 0, .int .i64 0, .slice none 0 0, .slice none 0 0, .slice none 0 0, .bool false, .int .u32 0, .int .u32 0, .int .u32 0, .int .u32 0, .slice none 0 0] 41) := ⟨_, rfl⟩
  obtain ⟨v4, hv4⟩ : ∃ v4, v4 = v3.alloc (.cells #[Value.int .u8 35, .int .u64 (o.n : Int), .int .u64 0, .slice none 0 0] 59) := ⟨_, rfl⟩
  have e0 : w.heap.size = w.heap.size := rfl
  have e1 : v1.heap.size = w.heap.size + 1 := by rw [hv1]; simp [e0]
  have s1 : Step (fun _ => False) w v1 := by rw [hv1]; exact Step.alloc Step.refl _
  have e2 : v2.heap.size = w.heap.size + 1 + 1 := by rw [hv2]; simp [e1]
  have s2 : Step (fun _ => False) v1 v2 := by rw [hv2]; exact Step.alloc Step.refl _
  have e3 : v3.heap.size = w.heap.size + 1 + 1 + 1 := by rw [hv3]; simp [e2]
  have s3 : Step (fun _ => False) v2 v3 := by rw [hv3]; exact Step.alloc Step.refl _
  have e4 : v4.heap.size = w.heap.size + 1 + 1 + 1 + 1 := by rw [hv4]; simp [e3]
  have s4 : Step (fun _ => False) v3 v4 := by rw [hv4]; exact Step.alloc Step.refl _
  have HB : Hid (Blk v4 (w.heap.size) 41 (mdC am m)) := by
    have h1 : Blk v1 w.heap.size 41 (mdC am m) := by rw [hv1]; exact Blk.new w _ _
    exact (((h1.step s2 id).step s3 id).step s4 id)
  have HX : Hid (Blk v4 (w.heap.size + 1) 52 #[.int .i64 12, .string (str o.s), .int .u32 (o.n : Int), .int .u32 (o.n2 : Int), .string (str o.t.p), .string (str o.t.r), .string (str o.lo), .slice o.A o.bo.length o.c, .int .u8 (o.vt : Int), .int .u64 (o.vn : Int), .bool o.mu]) := by
    have h1 : Blk v2 v1.heap.size 52 #[.int .i64 12, .string (str o.s), .int .u32 (o.n : Int), .int .u32 (o.n2 : Int), .string (str o.t.p), .string (str o.t.r), .string (str o.lo), .slice o.A o.bo.length o.c, .int .u8 (o.vt : Int), .int .u64 (o.vn : Int), .bool o.mu] := by rw [hv2]; exact Blk.new v1 _ _
    rw [e1] at h1
    exact ((h1.step s3 id).step s4 id)
  have HZ : Hid (Blk v4 (w.heap.size + 1 + 1) 41 #[.slice none 0 0, .slice none 0 0, .slice none 0 0, .slice none 0 0, .slice none 0 0, .slice none 0 0, .slice none 0 0, .int .i64 0, .slice none 0 0, .slice none 0 0, .slice none 0 0, .bool false, .int .u32 0, .int .u32 0, .int .u32 0, .int .u32 0, .slice none 0 0]) := by
    have h1 : Blk v3 v2.heap.size 41 #[.slice none 0 0, .slice none 0 0, .slice none 0 0, .slice none 0 0, .slice none 0 0, .slice none 0 0, .slice none 0 0, .int .i64 0, .slice none 0 0, .slice none 0 0, .slice none 0 0, .bool false, .int .u32 0, .int .u32 0, .int .u32 0, .int .u32 0, .slice none 0 0] := by rw [hv3]; exact Blk.new v2 _ _
    rw [e2] at h1
    exact (h1.step s4 id)
  have HG : Hid (Blk v4 (w.heap.size + 1 + 1 + 1) 59 #[Value.int .u8 35, .int .u64 (o.n : Int), .int .u64 0, .slice none 0 0]) := by
    have h1 : Blk v4 v3.heap.size 59 #[Value.int .u8 35, .int .u64 (o.n : Int), .int .u64 0, .slice none 0 0] := by rw [hv4]; exact Blk.new v3 _ _
    rw [e3] at h1
    exact h1
  have HS : Hid (Step (fun _ => False) w v4) := s1 |>.trans s2 |>.trans s3 |>.trans s4
  have HE1 := Lib.hid hv1
  have HE2 := Lib.hid hv2
  have HE3 := Lib.hid hv3
  have HE4 := Lib.hid hv4
  clear e1 s1 hv1 e2 s2 hv2 e3 s3 hv3 e4 s4 hv4 e0
  have x0 := HX.out.cell 0
  have x2 := HX.out.cell 2
  have x3 := HX.out.cell 3
  simp at x0 x2 x3
  rw [HE4.out, HE3.out, HE2.out, HE1.out] at x0 x2 x3
  have h4s : v4.heap.size = w.heap.size + 1 + 1 + 1 + 1 := by rw [HE4.out, HE3.out, HE2.out, HE1.out]; simp
  obtain ⟨v5, hv5⟩ : ∃ v5, v5 = v4.alloc (.cells #[Value.int .u32 (o.n2 : Int)] 36) := ⟨_, rfl⟩
  have s5 : Step (fun _ => False) v4 v5 := by rw [hv5]; exact Step.alloc Step.refl _
  have hrd : Reads v5 (fun k => k = w.heap.size + 1 + 1 + 1 + 1) 1 (some ⟨w.heap.size + 1 + 1 + 1 + 1, 0, none⟩) 1 #[Value.int .u32 (o.n2 : Int)].toList := by
    have := reads_new v4 #[Value.int .u32 (o.n2 : Int)] 36 1 1 rfl
    rw [h4s] at this
    rw [hv5]
    exact this
  have HE5 := Lib.hid hv5
  replace HB := Lib.hid (HB.out.step s5 id)
  replace HX := Lib.hid (HX.out.step s5 id)
  replace HZ := Lib.hid (HZ.out.step s5 id)
  replace HG := Lib.hid (HG.out.step s5 id)
  replace HS := Lib.hid (HS.out.trans s5)
  clear hv5 s5
  have hszv : v5.heap.size = w.heap.size + 1 + 1 + 1 + 1 + 1 := by rw [HE5.out, HE4.out, HE3.out, HE2.out, HE1.out]; simp
  have hB3 : B ≤ v5.heap.size := by omega
  have HM3 := Lib.hid (h.mkr.quiet HS.out)
  have hin : ∀ k, ftA X a k → k < w.heap.size := h.mkr.in_
  have hkm := elem_ok v5 B X a s tk vr HM3.out hB3 (by omega) o.n o.n2 1 hn1 _ _ hrd
  have HKM := Lib.hid hkm
  have HIN := Lib.hid hin
  obtain ⟨MA, hMA⟩ : ∃ MA, MA = mdC am m := ⟨_, rfl⟩
  rw [← hMA] at HE1 HB ⊢
  have HMA := Lib.hid hMA
  have H17 : Hid (MA.size = 17) := by rw [Hid, hMA]; rfl
  have H1 : Hid (MA.all (·.oneCell') = true) := by rw [Hid, hMA]; exact mdC_one am m
  clear hMA
  clear h hkm hin ho hl' hrd
  go_enter Try.func9, Try.ntmps9
  go_wp2_with (first | (refine ld_mod rfl _ rfl _ rfl MA (by first | exact HB.out | (rw [← HE1.out, ← HE2.out, ← HE3.out, ← HE4.out, ← HE5.out]; exact HB.out)) H17.out ?_))
  rw [← HE1.out]
  rw [← HE2.out]
  rw [← HE3.out]
  rw [← HE4.out]
  rw [← HE5.out]
  clear x0 x2 x3
  refine HKM.out.mono ?_
  rintro e w4 ⟨rfl, a1, DE, eE, hm, hu, hrE⟩
  have HB4 := Lib.hid (HB.out.step hu.1 (fun e => Nat.lt_irrefl _ (HIN.out _ e)))
  have HX4 := Lib.hid (HX.out.step hu.1 (fun e => by have := HIN.out _ e; omega))
  have HZ4 := Lib.hid (HZ.out.step hu.1 (fun e => by have := HIN.out _ e; omega))
  have HG4 := Lib.hid (HG.out.step hu.1 (fun e => by have := HIN.out _ e; omega))
  have HU := Lib.hid hu
  have HMK := Lib.hid hm
  have HRF4 := Lib.hid (HH.out.rf4 HS.out hu)
  have HS4 : Hid (Step (fun k => ftA X a k) w w4) := (HS.out.mono (fun _ _ h => h.elim)).trans hu.1
  have hsz4 := hu.1.size
  have hin4 : Hid (∀ k, ftA X a1 k → k < w4.heap.size) := hm.in_
  clear hu hm
  have y0 := HX4.out.cell 0
  have y2 := HX4.out.cell 2
  have y3 := HX4.out.cell 3
  simp at y0 y2 y3
  have g0 := HG4.out.cell 0
  have g1 := HG4.out.cell 1
  have g2 := HG4.out.cell 2
  have g3 := HG4.out.cell 3
  simp at g0 g1 g2 g3
  have HRD := Lib.hid hrE
  clear hrE
  have c0 := HB4.out.cell 8
  rw [HMA.out] at c0
  simp [mdC] at c0
  obtain ⟨N, hN⟩ : ∃ N, N = m.els.length := ⟨_, rfl⟩
  have HN := Lib.hid hN
  rw [← hN] at c0 k8
  clear hN
  have dz := cls_cell (F := fun _ => False) c0 id
  have dyy2 := cls_cell (F := fun _ => False) y2 id
  have dyy3 := cls_cell (F := fun _ => False) y3 id
  have dyg0 := cls_cell (F := fun _ => False) g0 id
  have dyg1 := cls_cell (F := fun _ => False) g1 id
  have dyg2 := cls_cell (F := fun _ => False) g2 id
  have dyg3 := cls_cell (F := fun _ => False) g3 id
  have hsrc := HRF4.out.r8
  rw [← HN.out] at hsrc
  have hone1 := elsL_one m.els
  have hm1 : 0 + N ≤ maxLen := by unfold maxLen; omega
  have hm2 : N + 1 ≤ maxLen := by unfold maxLen; omega
  have HSU0 : Hid (Step (fun _ => False) w4 w4.drew) := Step.refl.drew
  go_wp2_with fail
  clear c0 y2 y3 g0 g1 g2 g3
  refine Mxt.wp_region_tree [0, 3, 7, 9, 10, 12] [0, 3, 7, 9, 10] (.fork (.op 0 (.fork (.reads [1, 2] (.op 3 (.reads [5, 6] (.op 7 (.reads [4, 8] (.op 9 (.op 10 (.reads [11] (.op 12 .leaf))))))))) (.reads [5, 6] (.op 7 (.fork (.reads [1, 2] (.op 3 (.reads [4, 8] (.op 9 (.op 10 (.reads [11] (.op 12 .leaf))))))) (.reads [4, 8] (.op 9 (.reads [1, 2] (.op 3 (.op 10 (.reads [11] (.op 12 .leaf)))))))))))) (.reads [5, 6] (.op 7 (.fork (.op 0 (.fork (.reads [1, 2] (.op 3 (.reads [4, 8] (.op 9 (.op 10 (.reads [11] (.op 12 .leaf))))))) (.reads [4, 8] (.op 9 (.reads [1, 2] (.op 3 (.op 10 (.reads [11] (.op 12 .leaf))))))))) (.reads [4, 8] (.op 9 (.op 0 (.reads [1, 2] (.op 3 (.op 10 (.reads [11] (.op 12 .leaf)))))))))))) (Step (fun _ => False) w4) (by kernel_rfl) (by kernel_rfl) Step.refl.drew (fun hcls => ?_)
  obtain ⟨U0, hU0⟩ : ∃ U0, U0 = w4.drew := ⟨_, rfl⟩
  rw [← hU0] at HSU0 ⊢
  clear hU0
  refine Mxt.wpTL_fork ?_ ?_
  · refine Mxt.wpTL_op (by rfl) (fun K hK => ?_)
    go_simp
    refine hK _ _ (fun hlt => Mix.cl (Step.alloc HSU0.out _)) ?_
    clear hK K
    obtain ⟨U1, hU1⟩ : ∃ U1, U1 = U0.alloc (.cells #[] 79) := ⟨_, rfl⟩
    have HSU1 : Hid (Step (fun _ => False) w4 U1) := by rw [hU1]; exact Step.alloc HSU0.out _
    have hszU0 := HSU0.out.size
    have HFU1 : Hid (U1.ownsRow w4.heap.size 79 5 (.slice (some ⟨U0.heap.size, 0, none⟩) 0 0) 0 []) := by rw [hU1]; exact own_fresh 5 HSU0.out.size
    rw [← hU1]
    clear hU1
    refine Mxt.wpTL_fork ?_ ?_
    · refine Mxt.wpTL_reads ?_
      simp only [List.flatMap_cons, List.flatMap_nil, List.getElem?_cons_succ, List.getElem?_cons_zero, Option.toList_some, List.cons_append, List.nil_append]
      repeat (go_big_quiet_step (fail))
      refine wpQuiet_nil ?_
      refine Mxt.wpTL_op (by rfl) (fun K hK => ?_)
      refine step_append_new (w0 := w4) (by rfl) _ _ (by rfl) E_elsL HSU1.out (by rfl) HFU1.out (by rfl) (hsrc.step HSU1.out (fun _ _ => id)) hone1 hm1 (by omega) ?_
      intro D1 c1 W1 hown1 hS1 hgrow1 hat1
      refine hK _ _ (fun hlt => Mix.cl hS1) ?_
      clear hK K
      simp only [Act.put, List.setIfInBounds_toArray, List.set_cons_succ, List.set_cons_zero, Nat.zero_add]
      simp only [Nat.zero_add] at hown1
      have HSW1 := Lib.hid hS1
      have HDW1 : Hid (W1.ownsRow w4.heap.size 79 5 (.slice D1 N c1) N ([] ++ elsL m.els)) := hown1
      have hgs : Step (fun k => some (U0.heap.size) = some k) U1 W1 := Step.refl.grown hgrow1 (fun k hk => .inl hk)
      refine Mxt.wpTL_reads ?_
      simp only [List.flatMap_cons, List.flatMap_nil, List.getElem?_cons_succ, List.getElem?_cons_zero, Option.toList_some, List.cons_append, List.nil_append]
      repeat (go_big_quiet_step (fail))
      refine wpQuiet_nil ?_
      refine Mxt.wpTL_op (by rfl) (fun K hK => ?_)
      go_simp
      refine hK _ _ (fun hlt => Mix.cl (Step.alloc HSW1.out _)) ?_
      clear hK K
      obtain ⟨U3, hU3⟩ : ∃ U3, U3 = W1.alloc (.cells #[Value.int .u32 (o.n2 : Int)] 36) := ⟨_, rfl⟩
      have HSU3 : Hid (Step (fun _ => False) w4 U3) := by rw [hU3]; exact Step.alloc HSW1.out _
      have hszW1 := HSW1.out.size
      have HDU3 : Hid (U3.ownsRow w4.heap.size 79 5 (.slice D1 N c1) N ([] ++ elsL m.els)) := by rw [hU3]; exact HDW1.out.alloc _
      have HIU3 : Hid (U3.ownsRow w4.heap.size 36 1 (.slice (some ⟨W1.heap.size, 0, none⟩) 1 1) 1 #[Value.int .u32 (o.n2 : Int)].toList) := by rw [hU3]; exact own_lit W1 #[Value.int .u32 (o.n2 : Int)] 36 1 1 w4.heap.size HSW1.out.size (by decide) rfl
      rw [← hU3]
      clear hU3
      refine Mxt.wpTL_reads ?_
      simp only [List.flatMap_cons, List.flatMap_nil, List.getElem?_cons_succ, List.getElem?_cons_zero, Option.toList_some, List.cons_append, List.nil_append]
      repeat (go_big_quiet_step (fail))
      refine wpQuiet_nil ?_
      refine Mxt.wpTL_op (by rfl) (fun K hK => ?_)
      go_simp
      refine hK _ _ (fun hlt => Mix.cl (Step.alloc HSU3.out _)) ?_
      clear hK K
      obtain ⟨U4, hU4⟩ : ∃ U4, U4 = U3.alloc (.cells #[Value.int .u8 35, .int .u64 (o.n : Int), .int .u64 0, .slice none 0 0, .slice (some ⟨W1.heap.size, 0, none⟩) 1 1] 79) := ⟨_, rfl⟩
      have HSU4 : Hid (Step (fun _ => False) w4 U4) := by rw [hU4]; exact Step.alloc HSU3.out _
      have hszU3 := HSU3.out.size
      have HDU4 : Hid (U4.ownsRow w4.heap.size 79 5 (.slice D1 N c1) N ([] ++ elsL m.els)) := by rw [hU4]; exact HDU3.out.alloc _
      have HIU4 : Hid (U4.ownsRow w4.heap.size 36 1 (.slice (some ⟨W1.heap.size, 0, none⟩) 1 1) 1 #[Value.int .u32 (o.n2 : Int)].toList) := by rw [hU4]; exact HIU3.out.alloc _
      have HEU4 : Hid (Reads U4 (fun k => k = U3.heap.size) 5 (some ⟨U3.heap.size, 0, none⟩) 1 #[Value.int .u8 35, .int .u64 (o.n : Int), .int .u64 0, .slice none 0 0, .slice (some ⟨W1.heap.size, 0, none⟩) 1 1].toList) := by rw [hU4]; exact reads_new U3 #[Value.int .u8 35, .int .u64 (o.n : Int), .int .u64 0, .slice none 0 0, .slice (some ⟨W1.heap.size, 0, none⟩) 1 1] 79 5 1 rfl
      have apU4 : blkOf D1 ≠ some (U3.heap.size) := fun e => by have := own_lt HDU3.out _ (by rwa [ownBlock_slice]); omega
      rw [← hU4]
      clear hU4
      refine Mxt.wpTL_op (by rfl) (fun K hK => ?_)
      refine step_append_new (w0 := w4) (by rfl) _ _ (by rfl) E_elsL HSU4.out (by rfl) HDU4.out (by rfl) HEU4.out (by simp [Value.oneCell']) hm2 (by omega) ?_
      intro D2 c2 W2 hown2 hS2 hgrow2 hat2
      refine hK _ _ (fun hlt => Mix.cl hS2) ?_
      clear hK K
      simp only [Act.put, List.setIfInBounds_toArray, List.set_cons_succ, List.set_cons_zero, Nat.zero_add]
      have HIW2 : Hid (W2.ownsRow w4.heap.size 36 1 (.slice (some ⟨W1.heap.size, 0, none⟩) 1 1) 1 #[Value.int .u32 (o.n2 : Int)].toList) := own_step HIU4.out (Step.grown (F := fun k => blkOf D1 = some k) Step.refl hgrow2 (fun k hk => .inl hk)) (fun k hk e => own_tag2 HIU4.out HDU4.out (by decide) k hk (by rwa [ownBlock_slice]))
      refine Mxt.wpTL_reads ?_
      simp only [List.flatMap_cons, List.flatMap_nil, List.getElem?_cons_succ, List.getElem?_cons_zero, Option.toList_some, List.cons_append, List.nil_append]
      repeat (go_big_quiet_step (fail))
      refine wpQuiet_nil ?_
      have hB2 := HB4.out.step hS2 id
      have z0 := hB2.frozen 8
      have c0 := hB2.cell 8
      rw [HMA.out] at c0
      simp [mdC] at c0
      refine Mxt.wpTL_op (by rfl) (fun K hK => ?_)
      go_simp
      refine hK _ _ (fun hlt => absurd hlt (by decide)) ?_
      clear hK K z0 c0
      refine Mxt.wpTL_leaf ?_
      as_aux_lemma =>
      obtain ⟨W3, hW3⟩ : ∃ W3, W3 = W2.setCell ⟨w.heap.size, 8, none⟩ (.slice D2 (N + 1) c2) := ⟨_, rfl⟩
      obtain ⟨MB, hMB⟩ : ∃ MB, MB = mdC { am with A8 := D2, c8 := c2 } { m with els := m.els ++ [(⟨o.n, o.n2, some ⟨W1.heap.size, 0, none⟩, 1⟩ : El)] } := ⟨_, rfl⟩
      have HMB := Lib.hid hMB
      have H17b : Hid (MB.size = 17) := by rw [Hid, hMB]; rfl
      have H1b : Hid (MB.all (·.oneCell') = true) := by rw [Hid, hMB]; exact mdC_one _ _
      have HB3 : Hid (Blk W3 (w.heap.size) 41 MB) := by
        have := hB2.set_ 8 (.slice D2 (N + 1) c2)
        rw [← hW3, HMA.out] at this
        simp [mdC] at this
        rw [hMB]
        simp [mdC]
        rw [← HN.out]
        exact this
      have HZ3 : Hid (Blk W3 (w.heap.size + 1 + 1) 41 #[.slice none 0 0, .slice none 0 0, .slice none 0 0, .slice none 0 0, .slice none 0 0, .slice none 0 0, .slice none 0 0, .int .i64 0, .slice none 0 0, .slice none 0 0, .slice none 0 0, .bool false, .int .u32 0, .int .u32 0, .int .u32 0, .int .u32 0, .slice none 0 0]) := by rw [hW3]; exact (HZ4.out.step hS2 id).far (by show (w.heap.size + 1 + 1 : Nat) ≠ w.heap.size; omega) _
      have HO3 : Hid (W3.ownsRow w4.heap.size 79 5 (.slice D2 (N + 1) c2) (N + 1) (elsL (m.els ++ [(⟨o.n, o.n2, some ⟨W1.heap.size, 0, none⟩, 1⟩ : El)]))) := by
        rw [hW3, elsL_last]
        exact own_set hown2 (otag hown2 hB2 (by decide) |> fun h e => h (by rwa [ownBlock_slice] at e)) _
      skip
      have HSV : Hid (Step (fun k => k = w.heap.size) w4 W3) := by rw [hW3]; exact Step.setCell (F := fun k => k = w.heap.size) (hS2.mono (fun _ _ h => h.elim)) (.inl rfl) _
      have c0 := HB3.out.cell 8
      rw [hMB] at c0
      simp [mdC] at c0
      rw [← hW3]
      have HSV2 : Hid (Step (fun k => k = w.heap.size ∨ k = w.heap.size + 1 + 1) W2 W3) := by rw [hW3]; exact Step.setCell (F := fun k => k = w.heap.size ∨ k = w.heap.size + 1 + 1) Step.refl (.inl (.inl rfl)) _
      clear hW3 hB2 hown1 hown2 hS1 hS2 hgrow1 hgrow2 hat1 hat2 hMB
      clear c0
      go_wp2_with (first | (refine ld_mod rfl _ rfl _ rfl MB HB3.out H17b.out ?_) | (refine st_mod rfl _ _ rfl rfl (w.heap.size + 1 + 1) rfl MB rfl HZ3.out rfl H17b.out H1b.out ?_))
      refine bodyPost_ret (v := .tuple #[.agg MB, .bool true]) (res_mod2 Try.results9 (w.heap.size + 1 + 1) rfl rfl (Blk.row HZ3.out MB) H17b.out) rfl ?_
      have h46 : Step (fun k => w.heap.size ≤ k ∧ k < v5.heap.size) w4 (W3.setRow (w.heap.size + 1 + 1) MB) := (HSV.out.mono (F' := fun k => w.heap.size ≤ k ∧ k < v5.heap.size) (fun k _ e => by omega)).trans (Step.setRow (F := fun k => w.heap.size ≤ k ∧ k < v5.heap.size) Step.refl (.inl (by omega)) MB)
      have ho' := own_step HO3.out (Step.setRow (F := fun k => k = w.heap.size + 1 + 1) Step.refl (.inl rfl) MB) (fun k hk e => by subst e; exact own_tag HO3.out HZ3.out (by decide) hk)
      have hr6 := ((HRF4.out.step h46 (fun k hk e => by have := hk.2; omega)).mono (S' := fun k => Old T w k ∨ (v5.heap.size ≤ k ∧ ¬ ftA X a1 k)) (fun _ _ => .inl)).set8 (D := D2) (c' := c2) (l := m.els ++ [(⟨o.n, o.n2, some ⟨W1.heap.size, 0, none⟩, 1⟩ : El)]) (by
        rw [List.length_append, ← HN.out]
        exact (Reads.of_own ho').mono fun k _ hk => .inr ⟨by have := own_ge ho' k hk; omega, fun e => by have h1 := hin4.out k e; have h2 := own_ge ho' k hk; omega⟩)
      have hI6 := own_step HIW2.out (Step.trans (HSV2.out) (Step.setRow (F := fun k => k = w.heap.size ∨ k = w.heap.size + 1 + 1) Step.refl (.inl (.inr rfl)) MB)) (fun k hk e => by
        have h7 := own_ge HIW2.out k hk
        rcases e with e | e <;> omega)
      have hEl : Reads (W3.setRow (w.heap.size + 1 + 1) MB) (fun k => Old T w k ∨ (v5.heap.size ≤ k ∧ ¬ ftA X a1 k)) 1 (some ⟨W1.heap.size, 0, none⟩) 1 (u32s [o.n2]) := (Reads.of_own hI6).mono fun k _ hk => .inr ⟨by have := own_ge hI6 k hk; omega, fun e => by have h1 := hin4.out k e; have h2 := own_ge hI6 k hk; omega⟩
      have hfin := HH.out.fin2 HS.out HMK.out HU.out hr6 h46 (by exact Inn.addEl (Inn.mono (HH.out.inn4 HS.out HU.out) (fun k _ hk => Or.inl hk)) (HRD.out.mono fun k _ hk => Or.inr hk) rfl rfl) (by exact Inn.addEl (x := (⟨o.n, o.n2, some ⟨W1.heap.size, 0, none⟩, 1⟩ : El)) (Inn.mono ((HH.out.inm4 HS.out HU.out).step h46 (fun k hk e => by have := hk.2; omega)) (fun k _ hk => Or.inl hk)) hEl rfl rfl) (⟨HA.out.q0, HA.out.q1, HA.out.q2, HA.out.q5, HA.out.q6, HA.out.q10, HA.out.q16, HA.out.st, HA.out.d1, HA.out.d2, HA.out.d3, HA.out.d4, by show List.map El.er (_ ++ [_]) = List.map El.er (_ ++ [_]); rw [List.map_append, List.map_append, HA.out.q8]; rfl, HA.out.q9⟩)
      exact ⟨_, _, _, _, _, _, _, by rw [HMB.out], hfin.1, hfin.2, fun n ⟨h0, h1, h2, h3, h4, h5, h6, h7, h8⟩ => ⟨Nat.le_succ_of_le h0, Nat.le_succ_of_le h1, Nat.le_succ_of_le h2, Nat.le_succ_of_le h3, Nat.le_succ_of_le h4, by show (_ ++ [_]).length ≤ n + 1; rw [List.length_append]; exact Nat.succ_le_succ h5, Nat.le_succ_of_le h6, Nat.le_succ_of_le h7, Nat.le_succ_of_le h8⟩⟩
    · refine Mxt.wpTL_reads ?_
      simp only [List.flatMap_cons, List.flatMap_nil, List.getElem?_cons_succ, List.getElem?_cons_zero, Option.toList_some, List.cons_append, List.nil_append]
      repeat (go_big_quiet_step (fail))
      refine wpQuiet_nil ?_
      refine Mxt.wpTL_op (by rfl) (fun K hK => ?_)
      go_simp
      refine hK _ _ (fun hlt => Mix.cl (Step.alloc HSU1.out _)) ?_
      clear hK K
      obtain ⟨U5, hU5⟩ : ∃ U5, U5 = U1.alloc (.cells #[Value.int .u32 (o.n2 : Int)] 36) := ⟨_, rfl⟩
      have HSU5 : Hid (Step (fun _ => False) w4 U5) := by rw [hU5]; exact Step.alloc HSU1.out _
      have hszU1 := HSU1.out.size
      have HFU5 : Hid (U5.ownsRow w4.heap.size 79 5 (.slice (some ⟨U0.heap.size, 0, none⟩) 0 0) 0 []) := by rw [hU5]; exact HFU1.out.alloc _
      have HIU5 : Hid (U5.ownsRow w4.heap.size 36 1 (.slice (some ⟨U1.heap.size, 0, none⟩) 1 1) 1 #[Value.int .u32 (o.n2 : Int)].toList) := by rw [hU5]; exact own_lit U1 #[Value.int .u32 (o.n2 : Int)] 36 1 1 w4.heap.size HSU1.out.size (by decide) rfl
      rw [← hU5]
      clear hU5
      refine Mxt.wpTL_fork ?_ ?_
      · refine Mxt.wpTL_reads ?_
        simp only [List.flatMap_cons, List.flatMap_nil, List.getElem?_cons_succ, List.getElem?_cons_zero, Option.toList_some, List.cons_append, List.nil_append]
        repeat (go_big_quiet_step (fail))
        refine wpQuiet_nil ?_
        refine Mxt.wpTL_op (by rfl) (fun K hK => ?_)
        refine step_append_new (w0 := w4) (by rfl) _ _ (by rfl) E_elsL HSU5.out (by rfl) HFU5.out (by rfl) (hsrc.step HSU5.out (fun _ _ => id)) hone1 hm1 (by omega) ?_
        intro D1 c1 W1 hown1 hS1 hgrow1 hat1
        refine hK _ _ (fun hlt => Mix.cl hS1) ?_
        clear hK K
        simp only [Act.put, List.setIfInBounds_toArray, List.set_cons_succ, List.set_cons_zero, Nat.zero_add]
        simp only [Nat.zero_add] at hown1
        have HSW1 := Lib.hid hS1
        have HDW1 : Hid (W1.ownsRow w4.heap.size 79 5 (.slice D1 N c1) N ([] ++ elsL m.els)) := hown1
        have hgs : Step (fun k => some (U0.heap.size) = some k) U5 W1 := Step.refl.grown hgrow1 (fun k hk => .inl hk)
        have HIW1 : Hid (W1.ownsRow w4.heap.size 36 1 (.slice (some ⟨U1.heap.size, 0, none⟩) 1 1) 1 #[Value.int .u32 (o.n2 : Int)].toList) := own_step HIU5.out hgs (fun k hk e => own_tag2 HIU5.out HFU5.out (by decide) k hk e)
        refine Mxt.wpTL_reads ?_
        simp only [List.flatMap_cons, List.flatMap_nil, List.getElem?_cons_succ, List.getElem?_cons_zero, Option.toList_some, List.cons_append, List.nil_append]
        repeat (go_big_quiet_step (fail))
        refine wpQuiet_nil ?_
        refine Mxt.wpTL_op (by rfl) (fun K hK => ?_)
        go_simp
        refine hK _ _ (fun hlt => Mix.cl (Step.alloc HSW1.out _)) ?_
        clear hK K
        obtain ⟨U7, hU7⟩ : ∃ U7, U7 = W1.alloc (.cells #[Value.int .u8 35, .int .u64 (o.n : Int), .int .u64 0, .slice none 0 0, .slice (some ⟨U1.heap.size, 0, none⟩) 1 1] 79) := ⟨_, rfl⟩
        have HSU7 : Hid (Step (fun _ => False) w4 U7) := by rw [hU7]; exact Step.alloc HSW1.out _
        have hszW1 := HSW1.out.size
        have HDU7 : Hid (U7.ownsRow w4.heap.size 79 5 (.slice D1 N c1) N ([] ++ elsL m.els)) := by rw [hU7]; exact HDW1.out.alloc _
        have HIU7 : Hid (U7.ownsRow w4.heap.size 36 1 (.slice (some ⟨U1.heap.size, 0, none⟩) 1 1) 1 #[Value.int .u32 (o.n2 : Int)].toList) := by rw [hU7]; exact HIW1.out.alloc _
        have HEU7 : Hid (Reads U7 (fun k => k = W1.heap.size) 5 (some ⟨W1.heap.size, 0, none⟩) 1 #[Value.int .u8 35, .int .u64 (o.n : Int), .int .u64 0, .slice none 0 0, .slice (some ⟨U1.heap.size, 0, none⟩) 1 1].toList) := by rw [hU7]; exact reads_new W1 #[Value.int .u8 35, .int .u64 (o.n : Int), .int .u64 0, .slice none 0 0, .slice (some ⟨U1.heap.size, 0, none⟩) 1 1] 79 5 1 rfl
        have apU7 : blkOf D1 ≠ some (W1.heap.size) := fun e => by have := own_lt HDW1.out _ (by rwa [ownBlock_slice]); omega
        rw [← hU7]
        clear hU7
        refine Mxt.wpTL_op (by rfl) (fun K hK => ?_)
        refine step_append_new (w0 := w4) (by rfl) _ _ (by rfl) E_elsL HSU7.out (by rfl) HDU7.out (by rfl) HEU7.out (by simp [Value.oneCell']) hm2 (by omega) ?_
        intro D2 c2 W2 hown2 hS2 hgrow2 hat2
        refine hK _ _ (fun hlt => Mix.cl hS2) ?_
        clear hK K
        simp only [Act.put, List.setIfInBounds_toArray, List.set_cons_succ, List.set_cons_zero, Nat.zero_add]
        have HIW2 : Hid (W2.ownsRow w4.heap.size 36 1 (.slice (some ⟨U1.heap.size, 0, none⟩) 1 1) 1 #[Value.int .u32 (o.n2 : Int)].toList) := own_step HIU7.out (Step.grown (F := fun k => blkOf D1 = some k) Step.refl hgrow2 (fun k hk => .inl hk)) (fun k hk e => own_tag2 HIU7.out HDU7.out (by decide) k hk (by rwa [ownBlock_slice]))
        refine Mxt.wpTL_reads ?_
        simp only [List.flatMap_cons, List.flatMap_nil, List.getElem?_cons_succ, List.getElem?_cons_zero, Option.toList_some, List.cons_append, List.nil_append]
        repeat (go_big_quiet_step (fail))
        refine wpQuiet_nil ?_
        have hB2 := HB4.out.step hS2 id
        have z0 := hB2.frozen 8
        have c0 := hB2.cell 8
        rw [HMA.out] at c0
        simp [mdC] at c0
        refine Mxt.wpTL_op (by rfl) (fun K hK => ?_)
        go_simp
        refine hK _ _ (fun hlt => absurd hlt (by decide)) ?_
        clear hK K z0 c0
        refine Mxt.wpTL_leaf ?_
        as_aux_lemma =>
        obtain ⟨W3, hW3⟩ : ∃ W3, W3 = W2.setCell ⟨w.heap.size, 8, none⟩ (.slice D2 (N + 1) c2) := ⟨_, rfl⟩
        obtain ⟨MB, hMB⟩ : ∃ MB, MB = mdC { am with A8 := D2, c8 := c2 } { m with els := m.els ++ [(⟨o.n, o.n2, some ⟨U1.heap.size, 0, none⟩, 1⟩ : El)] } := ⟨_, rfl⟩
        have HMB := Lib.hid hMB
        have H17b : Hid (MB.size = 17) := by rw [Hid, hMB]; rfl
        have H1b : Hid (MB.all (·.oneCell') = true) := by rw [Hid, hMB]; exact mdC_one _ _
        have HB3 : Hid (Blk W3 (w.heap.size) 41 MB) := by
          have := hB2.set_ 8 (.slice D2 (N + 1) c2)
          rw [← hW3, HMA.out] at this
          simp [mdC] at this
          rw [hMB]
          simp [mdC]
          rw [← HN.out]
          exact this
        have HZ3 : Hid (Blk W3 (w.heap.size + 1 + 1) 41 #[.slice none 0 0, .slice none 0 0, .slice none 0 0, .slice none 0 0, .slice none 0 0, .slice none 0 0, .slice none 0 0, .int .i64 0, .slice none 0 0, .slice none 0 0, .slice none 0 0, .bool false, .int .u32 0, .int .u32 0, .int .u32 0, .int .u32 0, .slice none 0 0]) := by rw [hW3]; exact (HZ4.out.step hS2 id).far (by show (w.heap.size + 1 + 1 : Nat) ≠ w.heap.size; omega) _
        have HO3 : Hid (W3.ownsRow w4.heap.size 79 5 (.slice D2 (N + 1) c2) (N + 1) (elsL (m.els ++ [(⟨o.n, o.n2, some ⟨U1.heap.size, 0, none⟩, 1⟩ : El)]))) := by
          rw [hW3, elsL_last]
          exact own_set hown2 (otag hown2 hB2 (by decide) |> fun h e => h (by rwa [ownBlock_slice] at e)) _
        skip
        have HSV : Hid (Step (fun k => k = w.heap.size) w4 W3) := by rw [hW3]; exact Step.setCell (F := fun k => k = w.heap.size) (hS2.mono (fun _ _ h => h.elim)) (.inl rfl) _
        have c0 := HB3.out.cell 8
        rw [hMB] at c0
        simp [mdC] at c0
        rw [← hW3]
        have HSV2 : Hid (Step (fun k => k = w.heap.size ∨ k = w.heap.size + 1 + 1) W2 W3) := by rw [hW3]; exact Step.setCell (F := fun k => k = w.heap.size ∨ k = w.heap.size + 1 + 1) Step.refl (.inl (.inl rfl)) _
        clear hW3 hB2 hown1 hown2 hS1 hS2 hgrow1 hgrow2 hat1 hat2 hMB
        clear c0
        go_wp2_with (first | (refine ld_mod rfl _ rfl _ rfl MB HB3.out H17b.out ?_) | (refine st_mod rfl _ _ rfl rfl (w.heap.size + 1 + 1) rfl MB rfl HZ3.out rfl H17b.out H1b.out ?_))
        refine bodyPost_ret (v := .tuple #[.agg MB, .bool true]) (res_mod2 Try.results9 (w.heap.size + 1 + 1) rfl rfl (Blk.row HZ3.out MB) H17b.out) rfl ?_
        have h46 : Step (fun k => w.heap.size ≤ k ∧ k < v5.heap.size) w4 (W3.setRow (w.heap.size + 1 + 1) MB) := (HSV.out.mono (F' := fun k => w.heap.size ≤ k ∧ k < v5.heap.size) (fun k _ e => by omega)).trans (Step.setRow (F := fun k => w.heap.size ≤ k ∧ k < v5.heap.size) Step.refl (.inl (by omega)) MB)
        have ho' := own_step HO3.out (Step.setRow (F := fun k => k = w.heap.size + 1 + 1) Step.refl (.inl rfl) MB) (fun k hk e => by subst e; exact own_tag HO3.out HZ3.out (by decide) hk)
        have hr6 := ((HRF4.out.step h46 (fun k hk e => by have := hk.2; omega)).mono (S' := fun k => Old T w k ∨ (v5.heap.size ≤ k ∧ ¬ ftA X a1 k)) (fun _ _ => .inl)).set8 (D := D2) (c' := c2) (l := m.els ++ [(⟨o.n, o.n2, some ⟨U1.heap.size, 0, none⟩, 1⟩ : El)]) (by
          rw [List.length_append, ← HN.out]
          exact (Reads.of_own ho').mono fun k _ hk => .inr ⟨by have := own_ge ho' k hk; omega, fun e => by have h1 := hin4.out k e; have h2 := own_ge ho' k hk; omega⟩)
        have hI6 := own_step HIW2.out (Step.trans (HSV2.out) (Step.setRow (F := fun k => k = w.heap.size ∨ k = w.heap.size + 1 + 1) Step.refl (.inl (.inr rfl)) MB)) (fun k hk e => by
          have h7 := own_ge HIW2.out k hk
          rcases e with e | e <;> omega)
        have hEl : Reads (W3.setRow (w.heap.size + 1 + 1) MB) (fun k => Old T w k ∨ (v5.heap.size ≤ k ∧ ¬ ftA X a1 k)) 1 (some ⟨U1.heap.size, 0, none⟩) 1 (u32s [o.n2]) := (Reads.of_own hI6).mono fun k _ hk => .inr ⟨by have := own_ge hI6 k hk; omega, fun e => by have h1 := hin4.out k e; have h2 := own_ge hI6 k hk; omega⟩
        have hfin := HH.out.fin2 HS.out HMK.out HU.out hr6 h46 (by exact Inn.addEl (Inn.mono (HH.out.inn4 HS.out HU.out) (fun k _ hk => Or.inl hk)) (HRD.out.mono fun k _ hk => Or.inr hk) rfl rfl) (by exact Inn.addEl (x := (⟨o.n, o.n2, some ⟨U1.heap.size, 0, none⟩, 1⟩ : El)) (Inn.mono ((HH.out.inm4 HS.out HU.out).step h46 (fun k hk e => by have := hk.2; omega)) (fun k _ hk => Or.inl hk)) hEl rfl rfl) (⟨HA.out.q0, HA.out.q1, HA.out.q2, HA.out.q5, HA.out.q6, HA.out.q10, HA.out.q16, HA.out.st, HA.out.d1, HA.out.d2, HA.out.d3, HA.out.d4, by show List.map El.er (_ ++ [_]) = List.map El.er (_ ++ [_]); rw [List.map_append, List.map_append, HA.out.q8]; rfl, HA.out.q9⟩)
        exact ⟨_, _, _, _, _, _, _, by rw [HMB.out], hfin.1, hfin.2, fun n ⟨h0, h1, h2, h3, h4, h5, h6, h7, h8⟩ => ⟨Nat.le_succ_of_le h0, Nat.le_succ_of_le h1, Nat.le_succ_of_le h2, Nat.le_succ_of_le h3, Nat.le_succ_of_le h4, by show (_ ++ [_]).length ≤ n + 1; rw [List.length_append]; exact Nat.succ_le_succ h5, Nat.le_succ_of_le h6, Nat.le_succ_of_le h7, Nat.le_succ_of_le h8⟩⟩
      · refine Mxt.wpTL_reads ?_
        simp only [List.flatMap_cons, List.flatMap_nil, List.getElem?_cons_succ, List.getElem?_cons_zero, Option.toList_some, List.cons_append, List.nil_append]
        repeat (go_big_quiet_step (fail))
        refine wpQuiet_nil ?_
        refine Mxt.wpTL_op (by rfl) (fun K hK => ?_)
        go_simp
        refine hK _ _ (fun hlt => Mix.cl (Step.alloc HSU5.out _)) ?_
        clear hK K
        obtain ⟨U8, hU8⟩ : ∃ U8, U8 = U5.alloc (.cells #[Value.int .u8 35, .int .u64 (o.n : Int), .int .u64 0, .slice none 0 0, .slice (some ⟨U1.heap.size, 0, none⟩) 1 1] 79) := ⟨_, rfl⟩
        have HSU8 : Hid (Step (fun _ => False) w4 U8) := by rw [hU8]; exact Step.alloc HSU5.out _
        have hszU5 := HSU5.out.size
        have HFU8 : Hid (U8.ownsRow w4.heap.size 79 5 (.slice (some ⟨U0.heap.size, 0, none⟩) 0 0) 0 []) := by rw [hU8]; exact HFU5.out.alloc _
        have HIU8 : Hid (U8.ownsRow w4.heap.size 36 1 (.slice (some ⟨U1.heap.size, 0, none⟩) 1 1) 1 #[Value.int .u32 (o.n2 : Int)].toList) := by rw [hU8]; exact HIU5.out.alloc _
        have HEU8 : Hid (Reads U8 (fun k => k = U5.heap.size) 5 (some ⟨U5.heap.size, 0, none⟩) 1 #[Value.int .u8 35, .int .u64 (o.n : Int), .int .u64 0, .slice none 0 0, .slice (some ⟨U1.heap.size, 0, none⟩) 1 1].toList) := by rw [hU8]; exact reads_new U5 #[Value.int .u8 35, .int .u64 (o.n : Int), .int .u64 0, .slice none 0 0, .slice (some ⟨U1.heap.size, 0, none⟩) 1 1] 79 5 1 rfl
        have apU8 : U0.heap.size ≠ U5.heap.size := by have := own_lt HFU5.out U0.heap.size rfl; omega
        rw [← hU8]
        clear hU8
        refine Mxt.wpTL_reads ?_
        simp only [List.flatMap_cons, List.flatMap_nil, List.getElem?_cons_succ, List.getElem?_cons_zero, Option.toList_some, List.cons_append, List.nil_append]
        repeat (go_big_quiet_step (fail))
        refine wpQuiet_nil ?_
        refine Mxt.wpTL_op (by rfl) (fun K hK => ?_)
        refine step_append_new (w0 := w4) (by rfl) _ _ (by rfl) E_elsL HSU8.out (by rfl) HFU8.out (by rfl) (hsrc.step HSU8.out (fun _ _ => id)) hone1 hm1 (by omega) ?_
        intro D1 c1 W1 hown1 hS1 hgrow1 hat1
        refine hK _ _ (fun hlt => Mix.cl hS1) ?_
        clear hK K
        simp only [Act.put, List.setIfInBounds_toArray, List.set_cons_succ, List.set_cons_zero, Nat.zero_add]
        simp only [Nat.zero_add] at hown1
        have HSW1 := Lib.hid hS1
        have HDW1 : Hid (W1.ownsRow w4.heap.size 79 5 (.slice D1 N c1) N ([] ++ elsL m.els)) := hown1
        have hgs : Step (fun k => some (U0.heap.size) = some k) U8 W1 := Step.refl.grown hgrow1 (fun k hk => .inl hk)
        have HIW1 : Hid (W1.ownsRow w4.heap.size 36 1 (.slice (some ⟨U1.heap.size, 0, none⟩) 1 1) 1 #[Value.int .u32 (o.n2 : Int)].toList) := own_step HIU8.out hgs (fun k hk e => own_tag2 HIU8.out HFU8.out (by decide) k hk e)
        have HEW1 : Hid (Reads W1 (fun k => k = U5.heap.size) 5 (some ⟨U5.heap.size, 0, none⟩) 1 #[Value.int .u8 35, .int .u64 (o.n : Int), .int .u64 0, .slice none 0 0, .slice (some ⟨U1.heap.size, 0, none⟩) 1 1].toList) := HEU8.out.step hgs (fun k hk e => by subst hk; injection e with e; exact apU8 e)
        have apW1 : blkOf D1 ≠ some (U5.heap.size) := fun e => by
          have h5 : U5.heap.size < U8.heap.size := by obtain ⟨ad, e, h1, h2, h3⟩ := HEU8.out.2 (by decide); cases e; simpa using h2
          rcases hat1 with h6 | h6
          · rw [h6] at e; injection e with e; exact apU8 e
          · rw [h6] at e; injection e with e; omega
        refine Mxt.wpTL_op (by rfl) (fun K hK => ?_)
        refine step_append_new (w0 := w4) (by rfl) _ _ (by rfl) E_elsL HSW1.out (by rfl) HDW1.out (by rfl) HEW1.out (by simp [Value.oneCell']) hm2 (by omega) ?_
        intro D2 c2 W2 hown2 hS2 hgrow2 hat2
        refine hK _ _ (fun hlt => Mix.cl hS2) ?_
        clear hK K
        simp only [Act.put, List.setIfInBounds_toArray, List.set_cons_succ, List.set_cons_zero, Nat.zero_add]
        have HIW2 : Hid (W2.ownsRow w4.heap.size 36 1 (.slice (some ⟨U1.heap.size, 0, none⟩) 1 1) 1 #[Value.int .u32 (o.n2 : Int)].toList) := own_step HIW1.out (Step.grown (F := fun k => blkOf D1 = some k) Step.refl hgrow2 (fun k hk => .inl hk)) (fun k hk e => own_tag2 HIW1.out HDW1.out (by decide) k hk (by rwa [ownBlock_slice]))
        refine Mxt.wpTL_reads ?_
        simp only [List.flatMap_cons, List.flatMap_nil, List.getElem?_cons_succ, List.getElem?_cons_zero, Option.toList_some, List.cons_append, List.nil_append]
        repeat (go_big_quiet_step (fail))
        refine wpQuiet_nil ?_
        have hB2 := HB4.out.step hS2 id
        have z0 := hB2.frozen 8
        have c0 := hB2.cell 8
        rw [HMA.out] at c0
        simp [mdC] at c0
        refine Mxt.wpTL_op (by rfl) (fun K hK => ?_)
        go_simp
        refine hK _ _ (fun hlt => absurd hlt (by decide)) ?_
        clear hK K z0 c0
        refine Mxt.wpTL_leaf ?_
        as_aux_lemma =>
        obtain ⟨W3, hW3⟩ : ∃ W3, W3 = W2.setCell ⟨w.heap.size, 8, none⟩ (.slice D2 (N + 1) c2) := ⟨_, rfl⟩
        obtain ⟨MB, hMB⟩ : ∃ MB, MB = mdC { am with A8 := D2, c8 := c2 } { m with els := m.els ++ [(⟨o.n, o.n2, some ⟨U1.heap.size, 0, none⟩, 1⟩ : El)] } := ⟨_, rfl⟩
        have HMB := Lib.hid hMB
        have H17b : Hid (MB.size = 17) := by rw [Hid, hMB]; rfl
        have H1b : Hid (MB.all (·.oneCell') = true) := by rw [Hid, hMB]; exact mdC_one _ _
        have HB3 : Hid (Blk W3 (w.heap.size) 41 MB) := by
          have := hB2.set_ 8 (.slice D2 (N + 1) c2)
          rw [← hW3, HMA.out] at this
          simp [mdC] at this
          rw [hMB]
          simp [mdC]
          rw [← HN.out]
          exact this
        have HZ3 : Hid (Blk W3 (w.heap.size + 1 + 1) 41 #[.slice none 0 0, .slice none 0 0, .slice none 0 0, .slice none 0 0, .slice none 0 0, .slice none 0 0, .slice none 0 0, .int .i64 0, .slice none 0 0, .slice none 0 0, .slice none 0 0, .bool false, .int .u32 0, .int .u32 0, .int .u32 0, .int .u32 0, .slice none 0 0]) := by rw [hW3]; exact (HZ4.out.step hS2 id).far (by show (w.heap.size + 1 + 1 : Nat) ≠ w.heap.size; omega) _
        have HO3 : Hid (W3.ownsRow w4.heap.size 79 5 (.slice D2 (N + 1) c2) (N + 1) (elsL (m.els ++ [(⟨o.n, o.n2, some ⟨U1.heap.size, 0, none⟩, 1⟩ : El)]))) := by
          rw [hW3, elsL_last]
          exact own_set hown2 (otag hown2 hB2 (by decide) |> fun h e => h (by rwa [ownBlock_slice] at e)) _
        skip
        have HSV : Hid (Step (fun k => k = w.heap.size) w4 W3) := by rw [hW3]; exact Step.setCell (F := fun k => k = w.heap.size) (hS2.mono (fun _ _ h => h.elim)) (.inl rfl) _
        have c0 := HB3.out.cell 8
        rw [hMB] at c0
        simp [mdC] at c0
        rw [← hW3]
        have HSV2 : Hid (Step (fun k => k = w.heap.size ∨ k = w.heap.size + 1 + 1) W2 W3) := by rw [hW3]; exact Step.setCell (F := fun k => k = w.heap.size ∨ k = w.heap.size + 1 + 1) Step.refl (.inl (.inl rfl)) _
        clear hW3 hB2 hown1 hown2 hS1 hS2 hgrow1 hgrow2 hat1 hat2 hMB
        clear c0
        go_wp2_with (first | (refine ld_mod rfl _ rfl _ rfl MB HB3.out H17b.out ?_) | (refine st_mod rfl _ _ rfl rfl (w.heap.size + 1 + 1) rfl MB rfl HZ3.out rfl H17b.out H1b.out ?_))
        refine bodyPost_ret (v := .tuple #[.agg MB, .bool true]) (res_mod2 Try.results9 (w.heap.size + 1 + 1) rfl rfl (Blk.row HZ3.out MB) H17b.out) rfl ?_
        have h46 : Step (fun k => w.heap.size ≤ k ∧ k < v5.heap.size) w4 (W3.setRow (w.heap.size + 1 + 1) MB) := (HSV.out.mono (F' := fun k => w.heap.size ≤ k ∧ k < v5.heap.size) (fun k _ e => by omega)).trans (Step.setRow (F := fun k => w.heap.size ≤ k ∧ k < v5.heap.size) Step.refl (.inl (by omega)) MB)
        have ho' := own_step HO3.out (Step.setRow (F := fun k => k = w.heap.size + 1 + 1) Step.refl (.inl rfl) MB) (fun k hk e => by subst e; exact own_tag HO3.out HZ3.out (by decide) hk)
        have hr6 := ((HRF4.out.step h46 (fun k hk e => by have := hk.2; omega)).mono (S' := fun k => Old T w k ∨ (v5.heap.size ≤ k ∧ ¬ ftA X a1 k)) (fun _ _ => .inl)).set8 (D := D2) (c' := c2) (l := m.els ++ [(⟨o.n, o.n2, some ⟨U1.heap.size, 0, none⟩, 1⟩ : El)]) (by
          rw [List.length_append, ← HN.out]
          exact (Reads.of_own ho').mono fun k _ hk => .inr ⟨by have := own_ge ho' k hk; omega, fun e => by have h1 := hin4.out k e; have h2 := own_ge ho' k hk; omega⟩)
        have hI6 := own_step HIW2.out (Step.trans (HSV2.out) (Step.setRow (F := fun k => k = w.heap.size ∨ k = w.heap.size + 1 + 1) Step.refl (.inl (.inr rfl)) MB)) (fun k hk e => by
          have h7 := own_ge HIW2.out k hk
          rcases e with e | e <;> omega)
        have hEl : Reads (W3.setRow (w.heap.size + 1 + 1) MB) (fun k => Old T w k ∨ (v5.heap.size ≤ k ∧ ¬ ftA X a1 k)) 1 (some ⟨U1.heap.size, 0, none⟩) 1 (u32s [o.n2]) := (Reads.of_own hI6).mono fun k _ hk => .inr ⟨by have := own_ge hI6 k hk; omega, fun e => by have h1 := hin4.out k e; have h2 := own_ge hI6 k hk; omega⟩
        have hfin := HH.out.fin2 HS.out HMK.out HU.out hr6 h46 (by exact Inn.addEl (Inn.mono (HH.out.inn4 HS.out HU.out) (fun k _ hk => Or.inl hk)) (HRD.out.mono fun k _ hk => Or.inr hk) rfl rfl) (by exact Inn.addEl (x := (⟨o.n, o.n2, some ⟨U1.heap.size, 0, none⟩, 1⟩ : El)) (Inn.mono ((HH.out.inm4 HS.out HU.out).step h46 (fun k hk e => by have := hk.2; omega)) (fun k _ hk => Or.inl hk)) hEl rfl rfl) (⟨HA.out.q0, HA.out.q1, HA.out.q2, HA.out.q5, HA.out.q6, HA.out.q10, HA.out.q16, HA.out.st, HA.out.d1, HA.out.d2, HA.out.d3, HA.out.d4, by show List.map El.er (_ ++ [_]) = List.map El.er (_ ++ [_]); rw [List.map_append, List.map_append, HA.out.q8]; rfl, HA.out.q9⟩)
        exact ⟨_, _, _, _, _, _, _, by rw [HMB.out], hfin.1, hfin.2, fun n ⟨h0, h1, h2, h3, h4, h5, h6, h7, h8⟩ => ⟨Nat.le_succ_of_le h0, Nat.le_succ_of_le h1, Nat.le_succ_of_le h2, Nat.le_succ_of_le h3, Nat.le_succ_of_le h4, by show (_ ++ [_]).length ≤ n + 1; rw [List.length_append]; exact Nat.succ_le_succ h5, Nat.le_succ_of_le h6, Nat.le_succ_of_le h7, Nat.le_succ_of_le h8⟩⟩
  · refine Mxt.wpTL_reads ?_
    simp only [List.flatMap_cons, List.flatMap_nil, List.getElem?_cons_succ, List.getElem?_cons_zero, Option.toList_some, List.cons_append, List.nil_append]
    repeat (go_big_quiet_step (fail))
    refine wpQuiet_nil ?_
    refine Mxt.wpTL_op (by rfl) (fun K hK => ?_)
    go_simp
    refine hK _ _ (fun hlt => Mix.cl (Step.alloc HSU0.out _)) ?_
    clear hK K
    obtain ⟨U10, hU10⟩ : ∃ U10, U10 = U0.alloc (.cells #[Value.int .u32 (o.n2 : Int)] 36) := ⟨_, rfl⟩
    have HSU10 : Hid (Step (fun _ => False) w4 U10) := by rw [hU10]; exact Step.alloc HSU0.out _
    have hszU0 := HSU0.out.size
    have HIU10 : Hid (U10.ownsRow w4.heap.size 36 1 (.slice (some ⟨U0.heap.size, 0, none⟩) 1 1) 1 #[Value.int .u32 (o.n2 : Int)].toList) := by rw [hU10]; exact own_lit U0 #[Value.int .u32 (o.n2 : Int)] 36 1 1 w4.heap.size HSU0.out.size (by decide) rfl
    rw [← hU10]
    clear hU10
    refine Mxt.wpTL_fork ?_ ?_
    · refine Mxt.wpTL_op (by rfl) (fun K hK => ?_)
      go_simp
      refine hK _ _ (fun hlt => Mix.cl (Step.alloc HSU10.out _)) ?_
      clear hK K
      obtain ⟨U11, hU11⟩ : ∃ U11, U11 = U10.alloc (.cells #[] 79) := ⟨_, rfl⟩
      have HSU11 : Hid (Step (fun _ => False) w4 U11) := by rw [hU11]; exact Step.alloc HSU10.out _
      have hszU10 := HSU10.out.size
      have HIU11 : Hid (U11.ownsRow w4.heap.size 36 1 (.slice (some ⟨U0.heap.size, 0, none⟩) 1 1) 1 #[Value.int .u32 (o.n2 : Int)].toList) := by rw [hU11]; exact HIU10.out.alloc _
      have HFU11 : Hid (U11.ownsRow w4.heap.size 79 5 (.slice (some ⟨U10.heap.size, 0, none⟩) 0 0) 0 []) := by rw [hU11]; exact own_fresh 5 HSU10.out.size
      rw [← hU11]
      clear hU11
      refine Mxt.wpTL_fork ?_ ?_
      · refine Mxt.wpTL_reads ?_
        simp only [List.flatMap_cons, List.flatMap_nil, List.getElem?_cons_succ, List.getElem?_cons_zero, Option.toList_some, List.cons_append, List.nil_append]
        repeat (go_big_quiet_step (fail))
        refine wpQuiet_nil ?_
        refine Mxt.wpTL_op (by rfl) (fun K hK => ?_)
        refine step_append_new (w0 := w4) (by rfl) _ _ (by rfl) E_elsL HSU11.out (by rfl) HFU11.out (by rfl) (hsrc.step HSU11.out (fun _ _ => id)) hone1 hm1 (by omega) ?_
        intro D1 c1 W1 hown1 hS1 hgrow1 hat1
        refine hK _ _ (fun hlt => Mix.cl hS1) ?_
        clear hK K
        simp only [Act.put, List.setIfInBounds_toArray, List.set_cons_succ, List.set_cons_zero, Nat.zero_add]
        simp only [Nat.zero_add] at hown1
        have HSW1 := Lib.hid hS1
        have HDW1 : Hid (W1.ownsRow w4.heap.size 79 5 (.slice D1 N c1) N ([] ++ elsL m.els)) := hown1
        have hgs : Step (fun k => some (U10.heap.size) = some k) U11 W1 := Step.refl.grown hgrow1 (fun k hk => .inl hk)
        have HIW1 : Hid (W1.ownsRow w4.heap.size 36 1 (.slice (some ⟨U0.heap.size, 0, none⟩) 1 1) 1 #[Value.int .u32 (o.n2 : Int)].toList) := own_step HIU11.out hgs (fun k hk e => own_tag2 HIU11.out HFU11.out (by decide) k hk e)
        refine Mxt.wpTL_reads ?_
        simp only [List.flatMap_cons, List.flatMap_nil, List.getElem?_cons_succ, List.getElem?_cons_zero, Option.toList_some, List.cons_append, List.nil_append]
        repeat (go_big_quiet_step (fail))
        refine wpQuiet_nil ?_
        refine Mxt.wpTL_op (by rfl) (fun K hK => ?_)
        go_simp
        refine hK _ _ (fun hlt => Mix.cl (Step.alloc HSW1.out _)) ?_
        clear hK K
        obtain ⟨U13, hU13⟩ : ∃ U13, U13 = W1.alloc (.cells #[Value.int .u8 35, .int .u64 (o.n : Int), .int .u64 0, .slice none 0 0, .slice (some ⟨U0.heap.size, 0, none⟩) 1 1] 79) := ⟨_, rfl⟩
        have HSU13 : Hid (Step (fun _ => False) w4 U13) := by rw [hU13]; exact Step.alloc HSW1.out _
        have hszW1 := HSW1.out.size
        have HDU13 : Hid (U13.ownsRow w4.heap.size 79 5 (.slice D1 N c1) N ([] ++ elsL m.els)) := by rw [hU13]; exact HDW1.out.alloc _
        have HIU13 : Hid (U13.ownsRow w4.heap.size 36 1 (.slice (some ⟨U0.heap.size, 0, none⟩) 1 1) 1 #[Value.int .u32 (o.n2 : Int)].toList) := by rw [hU13]; exact HIW1.out.alloc _
        have HEU13 : Hid (Reads U13 (fun k => k = W1.heap.size) 5 (some ⟨W1.heap.size, 0, none⟩) 1 #[Value.int .u8 35, .int .u64 (o.n : Int), .int .u64 0, .slice none 0 0, .slice (some ⟨U0.heap.size, 0, none⟩) 1 1].toList) := by rw [hU13]; exact reads_new W1 #[Value.int .u8 35, .int .u64 (o.n : Int), .int .u64 0, .slice none 0 0, .slice (some ⟨U0.heap.size, 0, none⟩) 1 1] 79 5 1 rfl
        have apU13 : blkOf D1 ≠ some (W1.heap.size) := fun e => by have := own_lt HDW1.out _ (by rwa [ownBlock_slice]); omega
        rw [← hU13]
        clear hU13
        refine Mxt.wpTL_op (by rfl) (fun K hK => ?_)
        refine step_append_new (w0 := w4) (by rfl) _ _ (by rfl) E_elsL HSU13.out (by rfl) HDU13.out (by rfl) HEU13.out (by simp [Value.oneCell']) hm2 (by omega) ?_
        intro D2 c2 W2 hown2 hS2 hgrow2 hat2
        refine hK _ _ (fun hlt => Mix.cl hS2) ?_
        clear hK K
        simp only [Act.put, List.setIfInBounds_toArray, List.set_cons_succ, List.set_cons_zero, Nat.zero_add]
        have HIW2 : Hid (W2.ownsRow w4.heap.size 36 1 (.slice (some ⟨U0.heap.size, 0, none⟩) 1 1) 1 #[Value.int .u32 (o.n2 : Int)].toList) := own_step HIU13.out (Step.grown (F := fun k => blkOf D1 = some k) Step.refl hgrow2 (fun k hk => .inl hk)) (fun k hk e => own_tag2 HIU13.out HDU13.out (by decide) k hk (by rwa [ownBlock_slice]))
        refine Mxt.wpTL_reads ?_
        simp only [List.flatMap_cons, List.flatMap_nil, List.getElem?_cons_succ, List.getElem?_cons_zero, Option.toList_some, List.cons_append, List.nil_append]
        repeat (go_big_quiet_step (fail))
        refine wpQuiet_nil ?_
        have hB2 := HB4.out.step hS2 id
        have z0 := hB2.frozen 8
        have c0 := hB2.cell 8
        rw [HMA.out] at c0
        simp [mdC] at c0
        refine Mxt.wpTL_op (by rfl) (fun K hK => ?_)
        go_simp
        refine hK _ _ (fun hlt => absurd hlt (by decide)) ?_
        clear hK K z0 c0
        refine Mxt.wpTL_leaf ?_
        as_aux_lemma =>
        obtain ⟨W3, hW3⟩ : ∃ W3, W3 = W2.setCell ⟨w.heap.size, 8, none⟩ (.slice D2 (N + 1) c2) := ⟨_, rfl⟩
        obtain ⟨MB, hMB⟩ : ∃ MB, MB = mdC { am with A8 := D2, c8 := c2 } { m with els := m.els ++ [(⟨o.n, o.n2, some ⟨U0.heap.size, 0, none⟩, 1⟩ : El)] } := ⟨_, rfl⟩
        have HMB := Lib.hid hMB
        have H17b : Hid (MB.size = 17) := by rw [Hid, hMB]; rfl
        have H1b : Hid (MB.all (·.oneCell') = true) := by rw [Hid, hMB]; exact mdC_one _ _
        have HB3 : Hid (Blk W3 (w.heap.size) 41 MB) := by
          have := hB2.set_ 8 (.slice D2 (N + 1) c2)
          rw [← hW3, HMA.out] at this
          simp [mdC] at this
          rw [hMB]
          simp [mdC]
          rw [← HN.out]
          exact this
        have HZ3 : Hid (Blk W3 (w.heap.size + 1 + 1) 41 #[.slice none 0 0, .slice none 0 0, .slice none 0 0, .slice none 0 0, .slice none 0 0, .slice none 0 0, .slice none 0 0, .int .i64 0, .slice none 0 0, .slice none 0 0, .slice none 0 0, .bool false, .int .u32 0, .int .u32 0, .int .u32 0, .int .u32 0, .slice none 0 0]) := by rw [hW3]; exact (HZ4.out.step hS2 id).far (by show (w.heap.size + 1 + 1 : Nat) ≠ w.heap.size; omega) _
        have HO3 : Hid (W3.ownsRow w4.heap.size 79 5 (.slice D2 (N + 1) c2) (N + 1) (elsL (m.els ++ [(⟨o.n, o.n2, some ⟨U0.heap.size, 0, none⟩, 1⟩ : El)]))) := by
          rw [hW3, elsL_last]
          exact own_set hown2 (otag hown2 hB2 (by decide) |> fun h e => h (by rwa [ownBlock_slice] at e)) _
        skip
        have HSV : Hid (Step (fun k => k = w.heap.size) w4 W3) := by rw [hW3]; exact Step.setCell (F := fun k => k = w.heap.size) (hS2.mono (fun _ _ h => h.elim)) (.inl rfl) _
        have c0 := HB3.out.cell 8
        rw [hMB] at c0
        simp [mdC] at c0
        rw [← hW3]
        have HSV2 : Hid (Step (fun k => k = w.heap.size ∨ k = w.heap.size + 1 + 1) W2 W3) := by rw [hW3]; exact Step.setCell (F := fun k => k = w.heap.size ∨ k = w.heap.size + 1 + 1) Step.refl (.inl (.inl rfl)) _
        clear hW3 hB2 hown1 hown2 hS1 hS2 hgrow1 hgrow2 hat1 hat2 hMB
        clear c0
        go_wp2_with (first | (refine ld_mod rfl _ rfl _ rfl MB HB3.out H17b.out ?_) | (refine st_mod rfl _ _ rfl rfl (w.heap.size + 1 + 1) rfl MB rfl HZ3.out rfl H17b.out H1b.out ?_))
        refine bodyPost_ret (v := .tuple #[.agg MB, .bool true]) (res_mod2 Try.results9 (w.heap.size + 1 + 1) rfl rfl (Blk.row HZ3.out MB) H17b.out) rfl ?_
        have h46 : Step (fun k => w.heap.size ≤ k ∧ k < v5.heap.size) w4 (W3.setRow (w.heap.size + 1 + 1) MB) := (HSV.out.mono (F' := fun k => w.heap.size ≤ k ∧ k < v5.heap.size) (fun k _ e => by omega)).trans (Step.setRow (F := fun k => w.heap.size ≤ k ∧ k < v5.heap.size) Step.refl (.inl (by omega)) MB)
        have ho' := own_step HO3.out (Step.setRow (F := fun k => k = w.heap.size + 1 + 1) Step.refl (.inl rfl) MB) (fun k hk e => by subst e; exact own_tag HO3.out HZ3.out (by decide) hk)
        have hr6 := ((HRF4.out.step h46 (fun k hk e => by have := hk.2; omega)).mono (S' := fun k => Old T w k ∨ (v5.heap.size ≤ k ∧ ¬ ftA X a1 k)) (fun _ _ => .inl)).set8 (D := D2) (c' := c2) (l := m.els ++ [(⟨o.n, o.n2, some ⟨U0.heap.size, 0, none⟩, 1⟩ : El)]) (by
          rw [List.length_append, ← HN.out]
          exact (Reads.of_own ho').mono fun k _ hk => .inr ⟨by have := own_ge ho' k hk; omega, fun e => by have h1 := hin4.out k e; have h2 := own_ge ho' k hk; omega⟩)
        have hI6 := own_step HIW2.out (Step.trans (HSV2.out) (Step.setRow (F := fun k => k = w.heap.size ∨ k = w.heap.size + 1 + 1) Step.refl (.inl (.inr rfl)) MB)) (fun k hk e => by
          have h7 := own_ge HIW2.out k hk
          rcases e with e | e <;> omega)
        have hEl : Reads (W3.setRow (w.heap.size + 1 + 1) MB) (fun k => Old T w k ∨ (v5.heap.size ≤ k ∧ ¬ ftA X a1 k)) 1 (some ⟨U0.heap.size, 0, none⟩) 1 (u32s [o.n2]) := (Reads.of_own hI6).mono fun k _ hk => .inr ⟨by have := own_ge hI6 k hk; omega, fun e => by have h1 := hin4.out k e; have h2 := own_ge hI6 k hk; omega⟩
        have hfin := HH.out.fin2 HS.out HMK.out HU.out hr6 h46 (by exact Inn.addEl (Inn.mono (HH.out.inn4 HS.out HU.out) (fun k _ hk => Or.inl hk)) (HRD.out.mono fun k _ hk => Or.inr hk) rfl rfl) (by exact Inn.addEl (x := (⟨o.n, o.n2, some ⟨U0.heap.size, 0, none⟩, 1⟩ : El)) (Inn.mono ((HH.out.inm4 HS.out HU.out).step h46 (fun k hk e => by have := hk.2; omega)) (fun k _ hk => Or.inl hk)) hEl rfl rfl) (⟨HA.out.q0, HA.out.q1, HA.out.q2, HA.out.q5, HA.out.q6, HA.out.q10, HA.out.q16, HA.out.st, HA.out.d1, HA.out.d2, HA.out.d3, HA.out.d4, by show List.map El.er (_ ++ [_]) = List.map El.er (_ ++ [_]); rw [List.map_append, List.map_append, HA.out.q8]; rfl, HA.out.q9⟩)
        exact ⟨_, _, _, _, _, _, _, by rw [HMB.out], hfin.1, hfin.2, fun n ⟨h0, h1, h2, h3, h4, h5, h6, h7, h8⟩ => ⟨Nat.le_succ_of_le h0, Nat.le_succ_of_le h1, Nat.le_succ_of_le h2, Nat.le_succ_of_le h3, Nat.le_succ_of_le h4, by show (_ ++ [_]).length ≤ n + 1; rw [List.length_append]; exact Nat.succ_le_succ h5, Nat.le_succ_of_le h6, Nat.le_succ_of_le h7, Nat.le_succ_of_le h8⟩⟩
      · refine Mxt.wpTL_reads ?_
        simp only [List.flatMap_cons, List.flatMap_nil, List.getElem?_cons_succ, List.getElem?_cons_zero, Option.toList_some, List.cons_append, List.nil_append]
        repeat (go_big_quiet_step (fail))
        refine wpQuiet_nil ?_
        refine Mxt.wpTL_op (by rfl) (fun K hK => ?_)
        go_simp
        refine hK _ _ (fun hlt => Mix.cl (Step.alloc HSU11.out _)) ?_
        clear hK K
        obtain ⟨U14, hU14⟩ : ∃ U14, U14 = U11.alloc (.cells #[Value.int .u8 35, .int .u64 (o.n : Int), .int .u64 0, .slice none 0 0, .slice (some ⟨U0.heap.size, 0, none⟩) 1 1] 79) := ⟨_, rfl⟩
        have HSU14 : Hid (Step (fun _ => False) w4 U14) := by rw [hU14]; exact Step.alloc HSU11.out _
        have hszU11 := HSU11.out.size
        have HFU14 : Hid (U14.ownsRow w4.heap.size 79 5 (.slice (some ⟨U10.heap.size, 0, none⟩) 0 0) 0 []) := by rw [hU14]; exact HFU11.out.alloc _
        have HIU14 : Hid (U14.ownsRow w4.heap.size 36 1 (.slice (some ⟨U0.heap.size, 0, none⟩) 1 1) 1 #[Value.int .u32 (o.n2 : Int)].toList) := by rw [hU14]; exact HIU11.out.alloc _
        have HEU14 : Hid (Reads U14 (fun k => k = U11.heap.size) 5 (some ⟨U11.heap.size, 0, none⟩) 1 #[Value.int .u8 35, .int .u64 (o.n : Int), .int .u64 0, .slice none 0 0, .slice (some ⟨U0.heap.size, 0, none⟩) 1 1].toList) := by rw [hU14]; exact reads_new U11 #[Value.int .u8 35, .int .u64 (o.n : Int), .int .u64 0, .slice none 0 0, .slice (some ⟨U0.heap.size, 0, none⟩) 1 1] 79 5 1 rfl
        have apU14 : U10.heap.size ≠ U11.heap.size := by have := own_lt HFU11.out U10.heap.size rfl; omega
        rw [← hU14]
        clear hU14
        refine Mxt.wpTL_reads ?_
        simp only [List.flatMap_cons, List.flatMap_nil, List.getElem?_cons_succ, List.getElem?_cons_zero, Option.toList_some, List.cons_append, List.nil_append]
        repeat (go_big_quiet_step (fail))
        refine wpQuiet_nil ?_
        refine Mxt.wpTL_op (by rfl) (fun K hK => ?_)
        refine step_append_new (w0 := w4) (by rfl) _ _ (by rfl) E_elsL HSU14.out (by rfl) HFU14.out (by rfl) (hsrc.step HSU14.out (fun _ _ => id)) hone1 hm1 (by omega) ?_
        intro D1 c1 W1 hown1 hS1 hgrow1 hat1
        refine hK _ _ (fun hlt => Mix.cl hS1) ?_
        clear hK K
        simp only [Act.put, List.setIfInBounds_toArray, List.set_cons_succ, List.set_cons_zero, Nat.zero_add]
        simp only [Nat.zero_add] at hown1
        have HSW1 := Lib.hid hS1
        have HDW1 : Hid (W1.ownsRow w4.heap.size 79 5 (.slice D1 N c1) N ([] ++ elsL m.els)) := hown1
        have hgs : Step (fun k => some (U10.heap.size) = some k) U14 W1 := Step.refl.grown hgrow1 (fun k hk => .inl hk)
        have HIW1 : Hid (W1.ownsRow w4.heap.size 36 1 (.slice (some ⟨U0.heap.size, 0, none⟩) 1 1) 1 #[Value.int .u32 (o.n2 : Int)].toList) := own_step HIU14.out hgs (fun k hk e => own_tag2 HIU14.out HFU14.out (by decide) k hk e)
        have HEW1 : Hid (Reads W1 (fun k => k = U11.heap.size) 5 (some ⟨U11.heap.size, 0, none⟩) 1 #[Value.int .u8 35, .int .u64 (o.n : Int), .int .u64 0, .slice none 0 0, .slice (some ⟨U0.heap.size, 0, none⟩) 1 1].toList) := HEU14.out.step hgs (fun k hk e => by subst hk; injection e with e; exact apU14 e)
        have apW1 : blkOf D1 ≠ some (U11.heap.size) := fun e => by
          have h5 : U11.heap.size < U14.heap.size := by obtain ⟨ad, e, h1, h2, h3⟩ := HEU14.out.2 (by decide); cases e; simpa using h2
          rcases hat1 with h6 | h6
          · rw [h6] at e; injection e with e; exact apU14 e
          · rw [h6] at e; injection e with e; omega
        refine Mxt.wpTL_op (by rfl) (fun K hK => ?_)
        refine step_append_new (w0 := w4) (by rfl) _ _ (by rfl) E_elsL HSW1.out (by rfl) HDW1.out (by rfl) HEW1.out (by simp [Value.oneCell']) hm2 (by omega) ?_
        intro D2 c2 W2 hown2 hS2 hgrow2 hat2
        refine hK _ _ (fun hlt => Mix.cl hS2) ?_
        clear hK K
        simp only [Act.put, List.setIfInBounds_toArray, List.set_cons_succ, List.set_cons_zero, Nat.zero_add]
        have HIW2 : Hid (W2.ownsRow w4.heap.size 36 1 (.slice (some ⟨U0.heap.size, 0, none⟩) 1 1) 1 #[Value.int .u32 (o.n2 : Int)].toList) := own_step HIW1.out (Step.grown (F := fun k => blkOf D1 = some k) Step.refl hgrow2 (fun k hk => .inl hk)) (fun k hk e => own_tag2 HIW1.out HDW1.out (by decide) k hk (by rwa [ownBlock_slice]))
        refine Mxt.wpTL_reads ?_
        simp only [List.flatMap_cons, List.flatMap_nil, List.getElem?_cons_succ, List.getElem?_cons_zero, Option.toList_some, List.cons_append, List.nil_append]
        repeat (go_big_quiet_step (fail))
        refine wpQuiet_nil ?_
        have hB2 := HB4.out.step hS2 id
        have z0 := hB2.frozen 8
        have c0 := hB2.cell 8
        rw [HMA.out] at c0
        simp [mdC] at c0
        refine Mxt.wpTL_op (by rfl) (fun K hK => ?_)
        go_simp
        refine hK _ _ (fun hlt => absurd hlt (by decide)) ?_
        clear hK K z0 c0
        refine Mxt.wpTL_leaf ?_
        as_aux_lemma =>
        obtain ⟨W3, hW3⟩ : ∃ W3, W3 = W2.setCell ⟨w.heap.size, 8, none⟩ (.slice D2 (N + 1) c2) := ⟨_, rfl⟩
        obtain ⟨MB, hMB⟩ : ∃ MB, MB = mdC { am with A8 := D2, c8 := c2 } { m with els := m.els ++ [(⟨o.n, o.n2, some ⟨U0.heap.size, 0, none⟩, 1⟩ : El)] } := ⟨_, rfl⟩
        have HMB := Lib.hid hMB
        have H17b : Hid (MB.size = 17) := by rw [Hid, hMB]; rfl
        have H1b : Hid (MB.all (·.oneCell') = true) := by rw [Hid, hMB]; exact mdC_one _ _
        have HB3 : Hid (Blk W3 (w.heap.size) 41 MB) := by
          have := hB2.set_ 8 (.slice D2 (N + 1) c2)
          rw [← hW3, HMA.out] at this
          simp [mdC] at this
          rw [hMB]
          simp [mdC]
          rw [← HN.out]
          exact this
        have HZ3 : Hid (Blk W3 (w.heap.size + 1 + 1) 41 #[.slice none 0 0, .slice none 0 0, .slice none 0 0, .slice none 0 0, .slice none 0 0, .slice none 0 0, .slice none 0 0, .int .i64 0, .slice none 0 0, .slice none 0 0, .slice none 0 0, .bool false, .int .u32 0, .int .u32 0, .int .u32 0, .int .u32 0, .slice none 0 0]) := by rw [hW3]; exact (HZ4.out.step hS2 id).far (by show (w.heap.size + 1 + 1 : Nat) ≠ w.heap.size; omega) _
        have HO3 : Hid (W3.ownsRow w4.heap.size 79 5 (.slice D2 (N + 1) c2) (N + 1) (elsL (m.els ++ [(⟨o.n, o.n2, some ⟨U0.heap.size, 0, none⟩, 1⟩ : El)]))) := by
          rw [hW3, elsL_last]
          exact own_set hown2 (otag hown2 hB2 (by decide) |> fun h e => h (by rwa [ownBlock_slice] at e)) _
        skip
        have HSV : Hid (Step (fun k => k = w.heap.size) w4 W3) := by rw [hW3]; exact Step.setCell (F := fun k => k = w.heap.size) (hS2.mono (fun _ _ h => h.elim)) (.inl rfl) _
        have c0 := HB3.out.cell 8
        rw [hMB] at c0
        simp [mdC] at c0
        rw [← hW3]
        have HSV2 : Hid (Step (fun k => k = w.heap.size ∨ k = w.heap.size + 1 + 1) W2 W3) := by rw [hW3]; exact Step.setCell (F := fun k => k = w.heap.size ∨ k = w.heap.size + 1 + 1) Step.refl (.inl (.inl rfl)) _
        clear hW3 hB2 hown1 hown2 hS1 hS2 hgrow1 hgrow2 hat1 hat2 hMB
        clear c0
        go_wp2_with (first | (refine ld_mod rfl _ rfl _ rfl MB HB3.out H17b.out ?_) | (refine st_mod rfl _ _ rfl rfl (w.heap.size + 1 + 1) rfl MB rfl HZ3.out rfl H17b.out H1b.out ?_))
        refine bodyPost_ret (v := .tuple #[.agg MB, .bool true]) (res_mod2 Try.results9 (w.heap.size + 1 + 1) rfl rfl (Blk.row HZ3.out MB) H17b.out) rfl ?_
        have h46 : Step (fun k => w.heap.size ≤ k ∧ k < v5.heap.size) w4 (W3.setRow (w.heap.size + 1 + 1) MB) := (HSV.out.mono (F' := fun k => w.heap.size ≤ k ∧ k < v5.heap.size) (fun k _ e => by omega)).trans (Step.setRow (F := fun k => w.heap.size ≤ k ∧ k < v5.heap.size) Step.refl (.inl (by omega)) MB)
        have ho' := own_step HO3.out (Step.setRow (F := fun k => k = w.heap.size + 1 + 1) Step.refl (.inl rfl) MB) (fun k hk e => by subst e; exact own_tag HO3.out HZ3.out (by decide) hk)
        have hr6 := ((HRF4.out.step h46 (fun k hk e => by have := hk.2; omega)).mono (S' := fun k => Old T w k ∨ (v5.heap.size ≤ k ∧ ¬ ftA X a1 k)) (fun _ _ => .inl)).set8 (D := D2) (c' := c2) (l := m.els ++ [(⟨o.n, o.n2, some ⟨U0.heap.size, 0, none⟩, 1⟩ : El)]) (by
          rw [List.length_append, ← HN.out]
          exact (Reads.of_own ho').mono fun k _ hk => .inr ⟨by have := own_ge ho' k hk; omega, fun e => by have h1 := hin4.out k e; have h2 := own_ge ho' k hk; omega⟩)
        have hI6 := own_step HIW2.out (Step.trans (HSV2.out) (Step.setRow (F := fun k => k = w.heap.size ∨ k = w.heap.size + 1 + 1) Step.refl (.inl (.inr rfl)) MB)) (fun k hk e => by
          have h7 := own_ge HIW2.out k hk
          rcases e with e | e <;> omega)
        have hEl : Reads (W3.setRow (w.heap.size + 1 + 1) MB) (fun k => Old T w k ∨ (v5.heap.size ≤ k ∧ ¬ ftA X a1 k)) 1 (some ⟨U0.heap.size, 0, none⟩) 1 (u32s [o.n2]) := (Reads.of_own hI6).mono fun k _ hk => .inr ⟨by have := own_ge hI6 k hk; omega, fun e => by have h1 := hin4.out k e; have h2 := own_ge hI6 k hk; omega⟩
        have hfin := HH.out.fin2 HS.out HMK.out HU.out hr6 h46 (by exact Inn.addEl (Inn.mono (HH.out.inn4 HS.out HU.out) (fun k _ hk => Or.inl hk)) (HRD.out.mono fun k _ hk => Or.inr hk) rfl rfl) (by exact Inn.addEl (x := (⟨o.n, o.n2, some ⟨U0.heap.size, 0, none⟩, 1⟩ : El)) (Inn.mono ((HH.out.inm4 HS.out HU.out).step h46 (fun k hk e => by have := hk.2; omega)) (fun k _ hk => Or.inl hk)) hEl rfl rfl) (⟨HA.out.q0, HA.out.q1, HA.out.q2, HA.out.q5, HA.out.q6, HA.out.q10, HA.out.q16, HA.out.st, HA.out.d1, HA.out.d2, HA.out.d3, HA.out.d4, by show List.map El.er (_ ++ [_]) = List.map El.er (_ ++ [_]); rw [List.map_append, List.map_append, HA.out.q8]; rfl, HA.out.q9⟩)
        exact ⟨_, _, _, _, _, _, _, by rw [HMB.out], hfin.1, hfin.2, fun n ⟨h0, h1, h2, h3, h4, h5, h6, h7, h8⟩ => ⟨Nat.le_succ_of_le h0, Nat.le_succ_of_le h1, Nat.le_succ_of_le h2, Nat.le_succ_of_le h3, Nat.le_succ_of_le h4, by show (_ ++ [_]).length ≤ n + 1; rw [List.length_append]; exact Nat.succ_le_succ h5, Nat.le_succ_of_le h6, Nat.le_succ_of_le h7, Nat.le_succ_of_le h8⟩⟩
    · refine Mxt.wpTL_reads ?_
      simp only [List.flatMap_cons, List.flatMap_nil, List.getElem?_cons_succ, List.getElem?_cons_zero, Option.toList_some, List.cons_append, List.nil_append]
      repeat (go_big_quiet_step (fail))
      refine wpQuiet_nil ?_
      refine Mxt.wpTL_op (by rfl) (fun K hK => ?_)
      go_simp
      refine hK _ _ (fun hlt => Mix.cl (Step.alloc HSU10.out _)) ?_
      clear hK K
      obtain ⟨U16, hU16⟩ : ∃ U16, U16 = U10.alloc (.cells #[Value.int .u8 35, .int .u64 (o.n : Int), .int .u64 0, .slice none 0 0, .slice (some ⟨U0.heap.size, 0, none⟩) 1 1] 79) := ⟨_, rfl⟩
      have HSU16 : Hid (Step (fun _ => False) w4 U16) := by rw [hU16]; exact Step.alloc HSU10.out _
      have hszU10 := HSU10.out.size
      have HIU16 : Hid (U16.ownsRow w4.heap.size 36 1 (.slice (some ⟨U0.heap.size, 0, none⟩) 1 1) 1 #[Value.int .u32 (o.n2 : Int)].toList) := by rw [hU16]; exact HIU10.out.alloc _
      have HEU16 : Hid (Reads U16 (fun k => k = U10.heap.size) 5 (some ⟨U10.heap.size, 0, none⟩) 1 #[Value.int .u8 35, .int .u64 (o.n : Int), .int .u64 0, .slice none 0 0, .slice (some ⟨U0.heap.size, 0, none⟩) 1 1].toList) := by rw [hU16]; exact reads_new U10 #[Value.int .u8 35, .int .u64 (o.n : Int), .int .u64 0, .slice none 0 0, .slice (some ⟨U0.heap.size, 0, none⟩) 1 1] 79 5 1 rfl
      rw [← hU16]
      clear hU16
      refine Mxt.wpTL_op (by rfl) (fun K hK => ?_)
      go_simp
      refine hK _ _ (fun hlt => Mix.cl (Step.alloc HSU16.out _)) ?_
      clear hK K
      obtain ⟨U17, hU17⟩ : ∃ U17, U17 = U16.alloc (.cells #[] 79) := ⟨_, rfl⟩
      have HSU17 : Hid (Step (fun _ => False) w4 U17) := by rw [hU17]; exact Step.alloc HSU16.out _
      have hszU16 := HSU16.out.size
      have HIU17 : Hid (U17.ownsRow w4.heap.size 36 1 (.slice (some ⟨U0.heap.size, 0, none⟩) 1 1) 1 #[Value.int .u32 (o.n2 : Int)].toList) := by rw [hU17]; exact HIU16.out.alloc _
      have HEU17 : Hid (Reads U17 (fun k => k = U10.heap.size) 5 (some ⟨U10.heap.size, 0, none⟩) 1 #[Value.int .u8 35, .int .u64 (o.n : Int), .int .u64 0, .slice none 0 0, .slice (some ⟨U0.heap.size, 0, none⟩) 1 1].toList) := by rw [hU17]; exact HEU16.out.step (F := fun _ => False) (Step.alloc Step.refl _) (fun _ _ => id)
      have HFU17 : Hid (U17.ownsRow w4.heap.size 79 5 (.slice (some ⟨U16.heap.size, 0, none⟩) 0 0) 0 []) := by rw [hU17]; exact own_fresh 5 HSU16.out.size
      have apU17 : U16.heap.size ≠ U10.heap.size := by have := HEU16.out.2 (by decide); obtain ⟨ad, e, h1, h2, h3⟩ := this; cases e; exact fun e => by simp at h2; omega
      rw [← hU17]
      clear hU17
      refine Mxt.wpTL_reads ?_
      simp only [List.flatMap_cons, List.flatMap_nil, List.getElem?_cons_succ, List.getElem?_cons_zero, Option.toList_some, List.cons_append, List.nil_append]
      repeat (go_big_quiet_step (fail))
      refine wpQuiet_nil ?_
      refine Mxt.wpTL_op (by rfl) (fun K hK => ?_)
      refine step_append_new (w0 := w4) (by rfl) _ _ (by rfl) E_elsL HSU17.out (by rfl) HFU17.out (by rfl) (hsrc.step HSU17.out (fun _ _ => id)) hone1 hm1 (by omega) ?_
      intro D1 c1 W1 hown1 hS1 hgrow1 hat1
      refine hK _ _ (fun hlt => Mix.cl hS1) ?_
      clear hK K
      simp only [Act.put, List.setIfInBounds_toArray, List.set_cons_succ, List.set_cons_zero, Nat.zero_add]
      simp only [Nat.zero_add] at hown1
      have HSW1 := Lib.hid hS1
      have HDW1 : Hid (W1.ownsRow w4.heap.size 79 5 (.slice D1 N c1) N ([] ++ elsL m.els)) := hown1
      have hgs : Step (fun k => some (U16.heap.size) = some k) U17 W1 := Step.refl.grown hgrow1 (fun k hk => .inl hk)
      have HIW1 : Hid (W1.ownsRow w4.heap.size 36 1 (.slice (some ⟨U0.heap.size, 0, none⟩) 1 1) 1 #[Value.int .u32 (o.n2 : Int)].toList) := own_step HIU17.out hgs (fun k hk e => own_tag2 HIU17.out HFU17.out (by decide) k hk e)
      have HEW1 : Hid (Reads W1 (fun k => k = U10.heap.size) 5 (some ⟨U10.heap.size, 0, none⟩) 1 #[Value.int .u8 35, .int .u64 (o.n : Int), .int .u64 0, .slice none 0 0, .slice (some ⟨U0.heap.size, 0, none⟩) 1 1].toList) := HEU17.out.step hgs (fun k hk e => by subst hk; injection e with e; exact apU17 e)
      have apW1 : blkOf D1 ≠ some (U10.heap.size) := fun e => by
        have h5 : U10.heap.size < U17.heap.size := by obtain ⟨ad, e, h1, h2, h3⟩ := HEU17.out.2 (by decide); cases e; simpa using h2
        rcases hat1 with h6 | h6
        · rw [h6] at e; injection e with e; exact apU17 e
        · rw [h6] at e; injection e with e; omega
      refine Mxt.wpTL_op (by rfl) (fun K hK => ?_)
      refine step_append_new (w0 := w4) (by rfl) _ _ (by rfl) E_elsL HSW1.out (by rfl) HDW1.out (by rfl) HEW1.out (by simp [Value.oneCell']) hm2 (by omega) ?_
      intro D2 c2 W2 hown2 hS2 hgrow2 hat2
      refine hK _ _ (fun hlt => Mix.cl hS2) ?_
      clear hK K
      simp only [Act.put, List.setIfInBounds_toArray, List.set_cons_succ, List.set_cons_zero, Nat.zero_add]
      have HIW2 : Hid (W2.ownsRow w4.heap.size 36 1 (.slice (some ⟨U0.heap.size, 0, none⟩) 1 1) 1 #[Value.int .u32 (o.n2 : Int)].toList) := own_step HIW1.out (Step.grown (F := fun k => blkOf D1 = some k) Step.refl hgrow2 (fun k hk => .inl hk)) (fun k hk e => own_tag2 HIW1.out HDW1.out (by decide) k hk (by rwa [ownBlock_slice]))
      refine Mxt.wpTL_reads ?_
      simp only [List.flatMap_cons, List.flatMap_nil, List.getElem?_cons_succ, List.getElem?_cons_zero, Option.toList_some, List.cons_append, List.nil_append]
      repeat (go_big_quiet_step (fail))
      refine wpQuiet_nil ?_
      have hB2 := HB4.out.step hS2 id
      have z0 := hB2.frozen 8
      have c0 := hB2.cell 8
      rw [HMA.out] at c0
      simp [mdC] at c0
      refine Mxt.wpTL_op (by rfl) (fun K hK => ?_)
      go_simp
      refine hK _ _ (fun hlt => absurd hlt (by decide)) ?_
      clear hK K z0 c0
      refine Mxt.wpTL_leaf ?_
      as_aux_lemma =>
      obtain ⟨W3, hW3⟩ : ∃ W3, W3 = W2.setCell ⟨w.heap.size, 8, none⟩ (.slice D2 (N + 1) c2) := ⟨_, rfl⟩
      obtain ⟨MB, hMB⟩ : ∃ MB, MB = mdC { am with A8 := D2, c8 := c2 } { m with els := m.els ++ [(⟨o.n, o.n2, some ⟨U0.heap.size, 0, none⟩, 1⟩ : El)] } := ⟨_, rfl⟩
      have HMB := Lib.hid hMB
      have H17b : Hid (MB.size = 17) := by rw [Hid, hMB]; rfl
      have H1b : Hid (MB.all (·.oneCell') = true) := by rw [Hid, hMB]; exact mdC_one _ _
      have HB3 : Hid (Blk W3 (w.heap.size) 41 MB) := by
        have := hB2.set_ 8 (.slice D2 (N + 1) c2)
        rw [← hW3, HMA.out] at this
        simp [mdC] at this
        rw [hMB]
        simp [mdC]
        rw [← HN.out]
        exact this
      have HZ3 : Hid (Blk W3 (w.heap.size + 1 + 1) 41 #[.slice none 0 0, .slice none 0 0, .slice none 0 0, .slice none 0 0, .slice none 0 0, .slice none 0 0, .slice none 0 0, .int .i64 0, .slice none 0 0, .slice none 0 0, .slice none 0 0, .bool false, .int .u32 0, .int .u32 0, .int .u32 0, .int .u32 0, .slice none 0 0]) := by rw [hW3]; exact (HZ4.out.step hS2 id).far (by show (w.heap.size + 1 + 1 : Nat) ≠ w.heap.size; omega) _
      have HO3 : Hid (W3.ownsRow w4.heap.size 79 5 (.slice D2 (N + 1) c2) (N + 1) (elsL (m.els ++ [(⟨o.n, o.n2, some ⟨U0.heap.size, 0, none⟩, 1⟩ : El)]))) := by
        rw [hW3, elsL_last]
        exact own_set hown2 (otag hown2 hB2 (by decide) |> fun h e => h (by rwa [ownBlock_slice] at e)) _
      skip
      have HSV : Hid (Step (fun k => k = w.heap.size) w4 W3) := by rw [hW3]; exact Step.setCell (F := fun k => k = w.heap.size) (hS2.mono (fun _ _ h => h.elim)) (.inl rfl) _
      have c0 := HB3.out.cell 8
      rw [hMB] at c0
      simp [mdC] at c0
      rw [← hW3]
      have HSV2 : Hid (Step (fun k => k = w.heap.size ∨ k = w.heap.size + 1 + 1) W2 W3) := by rw [hW3]; exact Step.setCell (F := fun k => k = w.heap.size ∨ k = w.heap.size + 1 + 1) Step.refl (.inl (.inl rfl)) _
      clear hW3 hB2 hown1 hown2 hS1 hS2 hgrow1 hgrow2 hat1 hat2 hMB
      clear c0
      go_wp2_with (first | (refine ld_mod rfl _ rfl _ rfl MB HB3.out H17b.out ?_) | (refine st_mod rfl _ _ rfl rfl (w.heap.size + 1 + 1) rfl MB rfl HZ3.out rfl H17b.out H1b.out ?_))
      refine bodyPost_ret (v := .tuple #[.agg MB, .bool true]) (res_mod2 Try.results9 (w.heap.size + 1 + 1) rfl rfl (Blk.row HZ3.out MB) H17b.out) rfl ?_
      have h46 : Step (fun k => w.heap.size ≤ k ∧ k < v5.heap.size) w4 (W3.setRow (w.heap.size + 1 + 1) MB) := (HSV.out.mono (F' := fun k => w.heap.size ≤ k ∧ k < v5.heap.size) (fun k _ e => by omega)).trans (Step.setRow (F := fun k => w.heap.size ≤ k ∧ k < v5.heap.size) Step.refl (.inl (by omega)) MB)
      have ho' := own_step HO3.out (Step.setRow (F := fun k => k = w.heap.size + 1 + 1) Step.refl (.inl rfl) MB) (fun k hk e => by subst e; exact own_tag HO3.out HZ3.out (by decide) hk)
      have hr6 := ((HRF4.out.step h46 (fun k hk e => by have := hk.2; omega)).mono (S' := fun k => Old T w k ∨ (v5.heap.size ≤ k ∧ ¬ ftA X a1 k)) (fun _ _ => .inl)).set8 (D := D2) (c' := c2) (l := m.els ++ [(⟨o.n, o.n2, some ⟨U0.heap.size, 0, none⟩, 1⟩ : El)]) (by
        rw [List.length_append, ← HN.out]
        exact (Reads.of_own ho').mono fun k _ hk => .inr ⟨by have := own_ge ho' k hk; omega, fun e => by have h1 := hin4.out k e; have h2 := own_ge ho' k hk; omega⟩)
      have hI6 := own_step HIW2.out (Step.trans (HSV2.out) (Step.setRow (F := fun k => k = w.heap.size ∨ k = w.heap.size + 1 + 1) Step.refl (.inl (.inr rfl)) MB)) (fun k hk e => by
        have h7 := own_ge HIW2.out k hk
        rcases e with e | e <;> omega)
      have hEl : Reads (W3.setRow (w.heap.size + 1 + 1) MB) (fun k => Old T w k ∨ (v5.heap.size ≤ k ∧ ¬ ftA X a1 k)) 1 (some ⟨U0.heap.size, 0, none⟩) 1 (u32s [o.n2]) := (Reads.of_own hI6).mono fun k _ hk => .inr ⟨by have := own_ge hI6 k hk; omega, fun e => by have h1 := hin4.out k e; have h2 := own_ge hI6 k hk; omega⟩
      have hfin := HH.out.fin2 HS.out HMK.out HU.out hr6 h46 (by exact Inn.addEl (Inn.mono (HH.out.inn4 HS.out HU.out) (fun k _ hk => Or.inl hk)) (HRD.out.mono fun k _ hk => Or.inr hk) rfl rfl) (by exact Inn.addEl (x := (⟨o.n, o.n2, some ⟨U0.heap.size, 0, none⟩, 1⟩ : El)) (Inn.mono ((HH.out.inm4 HS.out HU.out).step h46 (fun k hk e => by have := hk.2; omega)) (fun k _ hk => Or.inl hk)) hEl rfl rfl) (⟨HA.out.q0, HA.out.q1, HA.out.q2, HA.out.q5, HA.out.q6, HA.out.q10, HA.out.q16, HA.out.st, HA.out.d1, HA.out.d2, HA.out.d3, HA.out.d4, by show List.map El.er (_ ++ [_]) = List.map El.er (_ ++ [_]); rw [List.map_append, List.map_append, HA.out.q8]; rfl, HA.out.q9⟩)
      exact ⟨_, _, _, _, _, _, _, by rw [HMB.out], hfin.1, hfin.2, fun n ⟨h0, h1, h2, h3, h4, h5, h6, h7, h8⟩ => ⟨Nat.le_succ_of_le h0, Nat.le_succ_of_le h1, Nat.le_succ_of_le h2, Nat.le_succ_of_le h3, Nat.le_succ_of_le h4, by show (_ ++ [_]).length ≤ n + 1; rw [List.length_append]; exact Nat.succ_le_succ h5, Nat.le_succ_of_le h6, Nat.le_succ_of_le h7, Nat.le_succ_of_le h8⟩⟩
end
end Go.Proofs.Ytflgpjdpofmbkaa
