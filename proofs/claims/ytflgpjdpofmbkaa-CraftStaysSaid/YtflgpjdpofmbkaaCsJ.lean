/-
  creelref47: Global.
-/
import Derived.Test.YtflgpjdpofmbkaaCsI
set_option linter.unusedVariables false
set_option linter.unusedSimpArgs false
namespace Go.Proofs.Ytflgpjdpofmbkaa
open Go.RowKit
section
variable (w : World) (a : Ad) (s : Mo) (S : Nat → Prop)

set_option maxRecDepth 100000 in
set_option maxHeartbeats 12800000 in
theorem rglob_y (hR : Rf w S a s) (hl : s.gs.length ≤ 1000) (hl2 : s.is.length ≤ 1000) (n : Nat) (m : Bool)  :
    Calls Try.prog 46 #[.agg (mdC a s), .agg #[Value.int .u8 126, .int .u64 (n : Int)], .bool m] w fun e w' => ∃ a' z, e = .returned (.tuple #[.agg (mdC a' { s with gs := s.gs ++ [(⟨126, m, 66, n⟩ : Gl)] }), .int .u32 z]) ∧ Rf w' (fun k => S k ∨ w.heap.size ≤ k) a' { s with gs := s.gs ++ [(⟨126, m, 66, n⟩ : Gl)] } ∧ Step (fun _ => False) w w' := by
  have HRf := Lib.hid hR
  obtain ⟨N, hN⟩ : ∃ N, N = s.gs.length := ⟨_, rfl⟩
  have HN := Lib.hid hN
  rw [← hN] at hl
  obtain ⟨v1, hv1⟩ : ∃ v1, v1 = w.alloc (.cells (mdC a s) 41) := ⟨_, rfl⟩
  obtain ⟨v2, hv2⟩ : ∃ v2, v2 = v1.alloc (.cells #[Value.int .u8 126, .int .u64 (n : Int)] 50) := ⟨_, rfl⟩
  obtain ⟨v3, hv3⟩ : ∃ v3, v3 = v2.alloc (.cells #[.slice none 0 0, .slice none 0 0, .slice none 0 0, .slice none 0 0, .slice none 0 0, .slice none 0 0, .slice none 0 0, .int .i64 0, .slice none 0 0, .slice none 0 0, .slice none 0 0, .bool false, .int .u32 0, .int .u32 0, .int .u32 0, .int .u32 0, .slice none 0 0] 41) := ⟨_, rfl⟩
  obtain ⟨v4, hv4⟩ : ∃ v4, v4 = v3.alloc (.cells #[Value.int .u8 66, .int .u64 (n : Int), .int .u64 0, .slice none 0 0] 59) := ⟨_, rfl⟩
  have e0 : w.heap.size = w.heap.size := rfl
  have e1 : v1.heap.size = w.heap.size + 1 := by rw [hv1]; simp [e0]
  have s1 : Step (fun _ => False) w v1 := by rw [hv1]; exact Step.alloc Step.refl _
  have e2 : v2.heap.size = w.heap.size + 1 + 1 := by rw [hv2]; simp [e1]
  have s2 : Step (fun _ => False) v1 v2 := by rw [hv2]; exact Step.alloc Step.refl _
  have e3 : v3.heap.size = w.heap.size + 1 + 1 + 1 := by rw [hv3]; simp [e2]
  have s3 : Step (fun _ => False) v2 v3 := by rw [hv3]; exact Step.alloc Step.refl _
  have e4 : v4.heap.size = w.heap.size + 1 + 1 + 1 + 1 := by rw [hv4]; simp [e3]
  have s4 : Step (fun _ => False) v3 v4 := by rw [hv4]; exact Step.alloc Step.refl _
  have HB : Hid (Blk v4 (w.heap.size) 41 (mdC a s)) := by
    have h1 : Blk v1 w.heap.size 41 (mdC a s) := by rw [hv1]; exact Blk.new w _ _
    exact (((h1.step s2 id).step s3 id).step s4 id)
  have HX : Hid (Blk v4 (w.heap.size + 1) 50 #[Value.int .u8 126, .int .u64 (n : Int)]) := by
    have h1 : Blk v2 v1.heap.size 50 #[Value.int .u8 126, .int .u64 (n : Int)] := by rw [hv2]; exact Blk.new v1 _ _
    rw [e1] at h1
    exact ((h1.step s3 id).step s4 id)
  have HZ : Hid (Blk v4 (w.heap.size + 1 + 1) 41 #[.slice none 0 0, .slice none 0 0, .slice none 0 0, .slice none 0 0, .slice none 0 0, .slice none 0 0, .slice none 0 0, .int .i64 0, .slice none 0 0, .slice none 0 0, .slice none 0 0, .bool false, .int .u32 0, .int .u32 0, .int .u32 0, .int .u32 0, .slice none 0 0]) := by
    have h1 : Blk v3 v2.heap.size 41 #[.slice none 0 0, .slice none 0 0, .slice none 0 0, .slice none 0 0, .slice none 0 0, .slice none 0 0, .slice none 0 0, .int .i64 0, .slice none 0 0, .slice none 0 0, .slice none 0 0, .bool false, .int .u32 0, .int .u32 0, .int .u32 0, .int .u32 0, .slice none 0 0] := by rw [hv3]; exact Blk.new v2 _ _
    rw [e2] at h1
    exact (h1.step s4 id)
  have HI : Hid (Blk v4 (w.heap.size + 1 + 1 + 1) 59 #[Value.int .u8 66, .int .u64 (n : Int), .int .u64 0, .slice none 0 0]) := by
    have h1 : Blk v4 v3.heap.size 59 #[Value.int .u8 66, .int .u64 (n : Int), .int .u64 0, .slice none 0 0] := by rw [hv4]; exact Blk.new v3 _ _
    rw [e3] at h1
    exact h1
  have HS : Hid (Step (fun _ => False) w v4) := s1 |>.trans s2 |>.trans s3 |>.trans s4
  have HE1 := Lib.hid hv1
  have HE2 := Lib.hid hv2
  have HE3 := Lib.hid hv3
  have HE4 := Lib.hid hv4
  clear e1 s1 hv1 e2 s2 hv2 e3 s3 hv3 e4 s4 hv4 e0
  obtain ⟨MA, hMA⟩ : ∃ MA, MA = mdC a s := ⟨_, rfl⟩
  rw [← hMA] at HE1 HB ⊢
  have HMA := Lib.hid hMA
  have H17 : Hid (MA.size = 17) := by rw [Hid, hMA]; rfl
  have H1 : Hid (MA.all (·.oneCell') = true) := by rw [Hid, hMA]; exact mdC_one a s
  clear hMA
  have HGl : Hid (#[Value.int .u8 126, .bool m, .int .u8 66, .int .u64 (n : Int), .int .u64 0, .slice none 0 0].toList = (⟨126, m, 66, n⟩ : Gl).cells) := rfl
  obtain ⟨RR, hRR⟩ : ∃ RR : Value → World → Prop, RR = fun e w' => ∃ a' z, e = .tuple #[.agg (mdC a' { s with gs := s.gs ++ [(⟨126, m, 66, n⟩ : Gl)] }), .int .u32 z] ∧ Rf w' (fun k => S k ∨ w.heap.size ≤ k) a' { s with gs := s.gs ++ [(⟨126, m, 66, n⟩ : Gl)] } ∧ Step (fun _ => False) w w' := ⟨_, rfl⟩
  have HRR := Lib.hid hRR
  refine (show Calls Try.prog 46 #[.agg MA, .agg #[Value.int .u8 126, .int .u64 (n : Int)], .bool m] w (fun e w' => ∃ v, e = .returned v ∧ RR v w') from ?_ ).mono ?h2
  case h2 =>
    rintro e w' ⟨v, rfl, hv⟩
    rw [HRR.out] at hv
    obtain ⟨a', z, rfl, hv⟩ := hv
    exact ⟨a', z, rfl, hv⟩
  clear hRR
  have hHX := HX.out
  rw [HE4.out, HE3.out, HE2.out, HE1.out] at hHX
  have x0 := hHX.cell 0
  have x1 := hHX.cell 1
  simp at x0 x1
  clear hR hN hHX
  go_enter Try.func46, Try.ntmps46
  go_wp2_with fail
  rw [← HE1.out]
  rw [← HE2.out]
  rw [← HE3.out]
  rw [← HE4.out]
  clear x0 x1
  have c5 := HB.out.cell 5
  rw [HMA.out] at c5
  simp [mdC] at c5
  rw [← HN.out] at c5
  have y0 := HX.out.cell 0
  have i0 := HI.out.cell 0
  have i1 := HI.out.cell 1
  have i2 := HI.out.cell 2
  have i3 := HI.out.cell 3
  simp at y0 i0 i1 i2 i3
  have d5 := cls_cell (F := fun _ => False) c5 id
  have dy := cls_cell (F := fun _ => False) y0 id
  have di0 := cls_cell (F := fun _ => False) i0 id
  have di1 := cls_cell (F := fun _ => False) i1 id
  have di2 := cls_cell (F := fun _ => False) i2 id
  have di3 := cls_cell (F := fun _ => False) i3 id
  clear c5 y0 i0 i1 i2 i3
  have hsrc := HRf.out.r5.step HS.out (fun _ _ => id)
  rw [← HN.out] at hsrc
  have hone1 := gls_one s.gs
  have hone2 : ∀ u ∈ #[Value.int .u8 126, .bool m, .int .u8 66, .int .u64 (n : Int), .int .u64 0, .slice none 0 0].toList, u.oneCell' = true := by simp [Value.oneCell']
  have hm1 : 0 + N ≤ maxLen := by unfold maxLen; omega
  have hm2 : N + 1 ≤ maxLen := by unfold maxLen; omega
  have hz1 : (v4.alloc (.cells #[Value.int .u8 126, .bool m, .int .u8 66, .int .u64 (n : Int), .int .u64 0, .slice none 0 0] 73)).heap.size = v4.heap.size + 1 := by simp
  have hz0 : (v4.alloc (.cells #[] 73)).heap.size = v4.heap.size + 1 := by simp
  have hfA : (v4.alloc (.cells #[] 73)).drew.ownsRow v4.heap.size 73 6 (.slice (some ⟨v4.heap.size, 0, none⟩) 0 0) 0 [] := own_drew (own_fresh 6 (Nat.le_refl _))
  have hrA := hsrc.step (F := fun _ => False) (Step.drew (Step.alloc Step.refl (.cells #[] 73))) (fun _ _ => id)
  have hfB : ((v4.alloc (.cells #[] 73)).alloc (.cells #[Value.int .u8 126, .bool m, .int .u8 66, .int .u64 (n : Int), .int .u64 0, .slice none 0 0] 73)).drew.ownsRow v4.heap.size 73 6 (.slice (some ⟨v4.heap.size, 0, none⟩) 0 0) 0 [] := own_drew ((own_fresh 6 (Nat.le_refl _)).alloc _)
  have hrB := hsrc.step (F := fun _ => False) (Step.drew (Step.alloc (Step.alloc Step.refl (.cells #[] 73)) (.cells #[Value.int .u8 126, .bool m, .int .u8 66, .int .u64 (n : Int), .int .u64 0, .slice none 0 0] 73))) (fun _ _ => id)
  have hxB := (reads_new (v4.alloc (.cells #[] 73)) #[Value.int .u8 126, .bool m, .int .u8 66, .int .u64 (n : Int), .int .u64 0, .slice none 0 0] 73 6 1 rfl).drew
  have hfC : ((v4.alloc (.cells #[Value.int .u8 126, .bool m, .int .u8 66, .int .u64 (n : Int), .int .u64 0, .slice none 0 0] 73)).alloc (.cells #[] 73)).drew.ownsRow v4.heap.size 73 6 (.slice (some ⟨v4.heap.size + 1, 0, none⟩) 0 0) 0 [] := by
    have := own_drew (own_fresh (w := v4.alloc (.cells #[Value.int .u8 126, .bool m, .int .u8 66, .int .u64 (n : Int), .int .u64 0, .slice none 0 0] 73)) (e := 73) (base := v4.heap.size) 6 (by omega))
    rwa [hz1] at this
  have hrC := hsrc.step (F := fun _ => False) (Step.drew (Step.alloc (Step.alloc Step.refl (.cells #[Value.int .u8 126, .bool m, .int .u8 66, .int .u64 (n : Int), .int .u64 0, .slice none 0 0] 73)) (.cells #[] 73))) (fun _ _ => id)
  have hxC := ((reads_new v4 #[Value.int .u8 126, .bool m, .int .u8 66, .int .u64 (n : Int), .int .u64 0, .slice none 0 0] 73 6 1 rfl).step (F := fun _ => False) (Step.alloc Step.refl (.cells #[] 73)) (fun _ _ => id)).drew
  rw [hz0] at hxB
  refine Mxt.wp_region_tree [0, 3, 10, 11, 13] [0, 3, 10, 11] (.fork (.op 0 (.reads [1, 2] (.fork (.op 3 (.reads [4, 5, 6, 7, 8, 9] (.op 10 (.op 11 (.reads [12] (.op 13 .leaf)))))) (.reads [4, 5, 6, 7, 8, 9] (.op 10 (.op 3 (.op 11 (.reads [12] (.op 13 .leaf))))))))) (.reads [4, 5, 6, 7, 8, 9] (.op 10 (.reads [1, 2] (.op 0 (.op 3 (.op 11 (.reads [12] (.op 13 .leaf))))))))) (Step (fun _ => False) v4) (by kernel_rfl) (by kernel_rfl) Step.refl.drew (fun hcls => ?_)
  refine Mxt.wpTL_fork ?_ ?_
  · refine Mxt.wpTL_op (by rfl) (fun K hK => ?_)
    go_simp
    refine hK _ _ (fun hlt => Mix.cl (Step.drew (Step.alloc Step.refl _))) ?_
    clear hK K
    refine Mxt.wpTL_reads ?_
    simp only [List.flatMap_cons, List.flatMap_nil, List.getElem?_cons_succ, List.getElem?_cons_zero, Option.toList_some, List.cons_append, List.nil_append]
    repeat (go_big_quiet_step (fail))
    refine wpQuiet_nil ?_
    refine Mxt.wpTL_fork ?_ ?_
    · refine Mxt.wpTL_op (by rfl) (fun K hK => ?_)
      refine step_append_new (w0 := v4) (by rfl) _ _ (by rfl) E_gls (Step.drew (Step.alloc Step.refl _)) (by rfl) (hfA) (by rfl) (hrA) hone1 hm1 (by omega) ?_
      intro D1 c1 W1 hown1 hS1 hgrow1 hat1
      refine hK _ _ (fun hlt => Mix.cl hS1) ?_
      clear hK K
      simp only [Act.put, List.setIfInBounds_toArray, List.set_cons_succ, List.set_cons_zero, Nat.zero_add]
      simp only [Nat.zero_add] at hown1
      refine Mxt.wpTL_reads ?_
      simp only [List.flatMap_cons, List.flatMap_nil, List.getElem?_cons_succ, List.getElem?_cons_zero, Option.toList_some, List.cons_append, List.nil_append]
      repeat (go_big_quiet_step (fail))
      refine wpQuiet_nil ?_
      refine Mxt.wpTL_op (by rfl) (fun K hK => ?_)
      go_simp
      refine hK _ _ (fun hlt => Mix.cl (Step.alloc hS1 _)) ?_
      clear hK K
      refine Mxt.wpTL_op (by rfl) (fun K hK => ?_)
      refine step_append_new (w0 := v4) (by rfl) _ _ (by rfl) E_gls (Step.alloc hS1 _) (by rfl) (hown1.alloc _) (by rfl) (reads_new W1 #[Value.int .u8 126, .bool m, .int .u8 66, .int .u64 (n : Int), .int .u64 0, .slice none 0 0] 73 6 1 rfl) hone2 hm2 (by omega) ?_
      intro D2 c2 W2 hown2 hS2 hgrow2 hat2
      refine hK _ _ (fun hlt => Mix.cl hS2) ?_
      clear hK K
      simp only [Act.put, List.setIfInBounds_toArray, List.set_cons_succ, List.set_cons_zero, Nat.zero_add]
      refine Mxt.wpTL_reads ?_
      simp only [List.flatMap_cons, List.flatMap_nil, List.getElem?_cons_succ, List.getElem?_cons_zero, Option.toList_some, List.cons_append, List.nil_append]
      repeat (go_big_quiet_step (fail))
      refine wpQuiet_nil ?_
      have hB2 := HB.out.step hS2 id
      have z0 := hB2.frozen 5
      have c0 := hB2.cell 5
      rw [HMA.out] at c0
      simp [mdC] at c0
      refine Mxt.wpTL_op (by rfl) (fun K hK => ?_)
      go_simp
      refine hK _ _ (fun hlt => absurd hlt (by decide)) ?_
      clear hK K z0 c0
      refine Mxt.wpTL_leaf ?_
      as_aux_lemma =>
      obtain ⟨W3, hW3⟩ : ∃ W3, W3 = W2.setCell ⟨w.heap.size, 5, none⟩ (.slice D2 (N + 1) c2) := ⟨_, rfl⟩
      obtain ⟨MB, hMB⟩ : ∃ MB, MB = mdC { a with A5 := D2, c5 := c2 } { s with gs := s.gs ++ [(⟨126, m, 66, n⟩ : Gl)] } := ⟨_, rfl⟩
      have HMB := Lib.hid hMB
      have H17b : Hid (MB.size = 17) := by rw [Hid, hMB]; rfl
      have H1b : Hid (MB.all (·.oneCell') = true) := by rw [Hid, hMB]; exact mdC_one _ _
      have HB3 : Hid (Blk W3 (w.heap.size) 41 MB) := by
        have := hB2.set_ 5 (.slice D2 (N + 1) c2)
        rw [← hW3, HMA.out] at this
        simp [mdC] at this
        rw [hMB]
        simp [mdC]
        rw [← HN.out]
        exact this
      have HZ3 : Hid (Blk W3 (w.heap.size + 1 + 1) 41 #[.slice none 0 0, .slice none 0 0, .slice none 0 0, .slice none 0 0, .slice none 0 0, .slice none 0 0, .slice none 0 0, .int .i64 0, .slice none 0 0, .slice none 0 0, .slice none 0 0, .bool false, .int .u32 0, .int .u32 0, .int .u32 0, .int .u32 0, .slice none 0 0]) := by rw [hW3]; exact (HZ.out.step hS2 id).far (by show (w.heap.size + 1 + 1 : Nat) ≠ w.heap.size; omega) _
      have HO3 : Hid (W3.ownsRow w.heap.size 73 6 (.slice D2 (N + 1) c2) (N + 1) (gls (s.gs ++ [(⟨126, m, 66, n⟩ : Gl)]))) := by
        rw [hW3, gls_last]
        exact own_set (own_base hown2 (fun k hk => by have h1 := own_ge hown2 k hk; have h2 := HS.out.size; omega)) (otag hown2 hB2 (by decide) |> fun h e => h (by rwa [ownBlock_slice] at e)) _
      have HS3 : Hid (Step (fun _ => False) w W3) := by rw [hW3]; exact (HS.out.trans hS2).setCell (.inr (by simp)) _
      have c0 := HB3.out.cell 5
      rw [hMB] at c0
      simp [mdC] at c0
      rw [← hW3]
      clear hW3 hB2 hown1 hown2 hS1 hS2 hgrow1 hgrow2 hat1 hat2 hMB
      rw [← HN.out] at c0
      have HRt : Hid (Rf W3 (fun k => S k ∨ w.heap.size ≤ k) { a with A5 := D2, c5 := c2 } { s with gs := s.gs ++ [(⟨126, m, 66, n⟩ : Gl)] }) := by
        refine HRf.out.with5 HS3.out ?_
        rw [List.length_append, ← HN.out]
        exact (Reads.of_own HO3.out).mono fun k _ hk => own_ge HO3.out k hk
      have hWR : w.heap.size ≠ w.heap.size + 1 + 1 := by omega
      have hCn := count_ok W3.drew { a with A5 := D2, c5 := c2 } { s with gs := s.gs ++ [(⟨126, m, 66, n⟩ : Gl)] } _ (HRt.out.step Step.refl.drew (fun _ _ => id)) hl2 3
      rw [show mdC { a with A5 := D2, c5 := c2 } { s with gs := s.gs ++ [(⟨126, m, 66, n⟩ : Gl)] } = MB from HMB.out.symm] at hCn
      have HCn := Lib.hid hCn
      clear hCn
      go_wp2_with fail
      have d0 := cls_cell (F := fun k => k = w.heap.size + 1 + 1) c0 hWR
      clear c0
      refine Mix.wp_region_mix [2, 9] [2, 9] (Step (fun k => k = w.heap.size + 1 + 1) W3) (by kernel_rfl) (by kernel_rfl) (Step.refl.drew) (fun hcls => ?_)
      refine Mix.wpL_reads 2 (by rfl) ?_
      simp only [List.take_succ_cons, List.drop_succ_cons, List.take_zero, List.drop_zero]
      repeat (first | (refine BigFrame.wpQuiet_want (by rfl) (fun K hK => quiet_ld_mod _ rfl (w.heap.size) rfl MB (fun w1 ⟨i, e⟩ => by rw [e]; exact HB3.out.step i.prop hWR) H17b.out (hK _ ?_)); clear hK K; simp only [Act.put, List.setIfInBounds_toArray, List.set_cons_succ, List.set_cons_zero]) | (go_big_quiet_step (fail)))
      refine wpQuiet_nil ?_
      refine Mix.wpL_op (by rfl) (fun K hK => ?_)
      go_simp
      refine HCn.out.mono ?_
      rintro e w4 ⟨⟨z4, rfl⟩, hs4⟩
      have HS34 : Hid (Step (fun _ => False) W3 w4) := Step.refl.drew.trans hs4
      have HZ4 := Lib.hid (HZ3.out.step HS34.out id)
      have HF4 : Hid (Step (fun k => k = w.heap.size + 1 + 1) W3 w4) := HS34.out.mono (fun _ _ h => h.elim)
      clear hs4
      refine hK _ _ (fun hlt => Mix.cl (HF4.out)) ?_
      clear hK K
      refine Mix.wpL_reads 6 (by rfl) ?_
      simp only [List.take_succ_cons, List.drop_succ_cons, List.take_zero, List.drop_zero]
      repeat (go_big_quiet_step (fail))
      refine wpQuiet_nil ?_
      refine Mix.wpL_op (by rfl) (fun K hK => ?_)
      refine wp_st_mod _ _ rfl rfl (w.heap.size + 1 + 1) rfl MB rfl HZ4.out rfl H17b.out H1b.out ?_
      refine hK _ _ (fun hlt => Mix.cl (Step.setRow (F := fun k => k = w.heap.size + 1 + 1) (g := w.heap.size + 1 + 1) HF4.out (.inl rfl) _)) ?_
      clear hK K
      refine Mix.wpL_reads 1 (by rfl) ?_
      simp only [List.take_succ_cons, List.drop_succ_cons, List.take_zero, List.drop_zero]
      repeat (go_big_quiet_step (fail))
      refine wpQuiet_nil ?_
      refine Mix.wpL_end ?_
      clear d0
      go_wp2_with fail
      have hst := (HS3.out.trans HS34.out).setRow (g := w.heap.size + 1 + 1) (.inr (by omega)) MB
      refine bodyPost_ret (v := .tuple #[.agg MB, .int .u32 _]) (res_mod2 Try.results46 (w.heap.size + 1 + 1) rfl rfl (Blk.row HZ4.out MB) H17b.out) rfl ?_
      refine ⟨_, rfl, ?_⟩
      rw [HRR.out]
      refine ⟨_, _, by rw [HMB.out], ?_, hst⟩
      have ho := own_step HO3.out (Step.setRow (F := fun k => k = w.heap.size + 1 + 1) (HS34.out.mono (fun _ _ h => h.elim)) (.inl rfl) MB) (fun k hk e => by subst e; exact own_tag HO3.out HZ3.out (by decide) hk)
      refine HRf.out.with5 hst ?_
      rw [List.length_append, ← HN.out]
      exact (Reads.of_own ho).mono fun k _ hk => own_ge ho k hk
    · refine Mxt.wpTL_reads ?_
      simp only [List.flatMap_cons, List.flatMap_nil, List.getElem?_cons_succ, List.getElem?_cons_zero, Option.toList_some, List.cons_append, List.nil_append]
      repeat (go_big_quiet_step (fail))
      refine wpQuiet_nil ?_
      refine Mxt.wpTL_op (by rfl) (fun K hK => ?_)
      go_simp
      refine hK _ _ (fun hlt => Mix.cl (Step.drew (Step.alloc (Step.alloc Step.refl _) _))) ?_
      clear hK K
      refine Mxt.wpTL_op (by rfl) (fun K hK => ?_)
      refine step_append_new (w0 := v4) (by rfl) _ _ (by rfl) E_gls (Step.drew (Step.alloc (Step.alloc Step.refl _) _)) (by rfl) (hfB) (by rfl) (hrB) hone1 hm1 (by omega) ?_
      intro D1 c1 W1 hown1 hS1 hgrow1 hat1
      refine hK _ _ (fun hlt => Mix.cl hS1) ?_
      clear hK K
      simp only [Act.put, List.setIfInBounds_toArray, List.set_cons_succ, List.set_cons_zero, Nat.zero_add]
      simp only [Nat.zero_add] at hown1
      have hx1 := hxB.step (Step.grown (F := fun k => blkOf (some (⟨v4.heap.size, 0, none⟩ : Addr)) = some k) Step.refl hgrow1 (fun k hk => .inl hk)) (fun k hk e => by simp [blkOf] at e; omega)
      refine Mxt.wpTL_op (by rfl) (fun K hK => ?_)
      refine step_append_new (w0 := v4) (by rfl) _ _ (by rfl) E_gls (hS1) (by rfl) (hown1) (by rfl) (hx1) hone2 hm2 (by omega) ?_
      intro D2 c2 W2 hown2 hS2 hgrow2 hat2
      refine hK _ _ (fun hlt => Mix.cl hS2) ?_
      clear hK K
      simp only [Act.put, List.setIfInBounds_toArray, List.set_cons_succ, List.set_cons_zero, Nat.zero_add]
      refine Mxt.wpTL_reads ?_
      simp only [List.flatMap_cons, List.flatMap_nil, List.getElem?_cons_succ, List.getElem?_cons_zero, Option.toList_some, List.cons_append, List.nil_append]
      repeat (go_big_quiet_step (fail))
      refine wpQuiet_nil ?_
      have hB2 := HB.out.step hS2 id
      have z0 := hB2.frozen 5
      have c0 := hB2.cell 5
      rw [HMA.out] at c0
      simp [mdC] at c0
      refine Mxt.wpTL_op (by rfl) (fun K hK => ?_)
      go_simp
      refine hK _ _ (fun hlt => absurd hlt (by decide)) ?_
      clear hK K z0 c0
      refine Mxt.wpTL_leaf ?_
      as_aux_lemma =>
      obtain ⟨W3, hW3⟩ : ∃ W3, W3 = W2.setCell ⟨w.heap.size, 5, none⟩ (.slice D2 (N + 1) c2) := ⟨_, rfl⟩
      obtain ⟨MB, hMB⟩ : ∃ MB, MB = mdC { a with A5 := D2, c5 := c2 } { s with gs := s.gs ++ [(⟨126, m, 66, n⟩ : Gl)] } := ⟨_, rfl⟩
      have HMB := Lib.hid hMB
      have H17b : Hid (MB.size = 17) := by rw [Hid, hMB]; rfl
      have H1b : Hid (MB.all (·.oneCell') = true) := by rw [Hid, hMB]; exact mdC_one _ _
      have HB3 : Hid (Blk W3 (w.heap.size) 41 MB) := by
        have := hB2.set_ 5 (.slice D2 (N + 1) c2)
        rw [← hW3, HMA.out] at this
        simp [mdC] at this
        rw [hMB]
        simp [mdC]
        rw [← HN.out]
        exact this
      have HZ3 : Hid (Blk W3 (w.heap.size + 1 + 1) 41 #[.slice none 0 0, .slice none 0 0, .slice none 0 0, .slice none 0 0, .slice none 0 0, .slice none 0 0, .slice none 0 0, .int .i64 0, .slice none 0 0, .slice none 0 0, .slice none 0 0, .bool false, .int .u32 0, .int .u32 0, .int .u32 0, .int .u32 0, .slice none 0 0]) := by rw [hW3]; exact (HZ.out.step hS2 id).far (by show (w.heap.size + 1 + 1 : Nat) ≠ w.heap.size; omega) _
      have HO3 : Hid (W3.ownsRow w.heap.size 73 6 (.slice D2 (N + 1) c2) (N + 1) (gls (s.gs ++ [(⟨126, m, 66, n⟩ : Gl)]))) := by
        rw [hW3, gls_last]
        exact own_set (own_base hown2 (fun k hk => by have h1 := own_ge hown2 k hk; have h2 := HS.out.size; omega)) (otag hown2 hB2 (by decide) |> fun h e => h (by rwa [ownBlock_slice] at e)) _
      have HS3 : Hid (Step (fun _ => False) w W3) := by rw [hW3]; exact (HS.out.trans hS2).setCell (.inr (by simp)) _
      have c0 := HB3.out.cell 5
      rw [hMB] at c0
      simp [mdC] at c0
      rw [← hW3]
      clear hW3 hB2 hown1 hown2 hS1 hS2 hgrow1 hgrow2 hat1 hat2 hMB
      rw [← HN.out] at c0
      have HRt : Hid (Rf W3 (fun k => S k ∨ w.heap.size ≤ k) { a with A5 := D2, c5 := c2 } { s with gs := s.gs ++ [(⟨126, m, 66, n⟩ : Gl)] }) := by
        refine HRf.out.with5 HS3.out ?_
        rw [List.length_append, ← HN.out]
        exact (Reads.of_own HO3.out).mono fun k _ hk => own_ge HO3.out k hk
      have hWR : w.heap.size ≠ w.heap.size + 1 + 1 := by omega
      have hCn := count_ok W3.drew { a with A5 := D2, c5 := c2 } { s with gs := s.gs ++ [(⟨126, m, 66, n⟩ : Gl)] } _ (HRt.out.step Step.refl.drew (fun _ _ => id)) hl2 3
      rw [show mdC { a with A5 := D2, c5 := c2 } { s with gs := s.gs ++ [(⟨126, m, 66, n⟩ : Gl)] } = MB from HMB.out.symm] at hCn
      have HCn := Lib.hid hCn
      clear hCn
      go_wp2_with fail
      have d0 := cls_cell (F := fun k => k = w.heap.size + 1 + 1) c0 hWR
      clear c0
      refine Mix.wp_region_mix [2, 9] [2, 9] (Step (fun k => k = w.heap.size + 1 + 1) W3) (by kernel_rfl) (by kernel_rfl) (Step.refl.drew) (fun hcls => ?_)
      refine Mix.wpL_reads 2 (by rfl) ?_
      simp only [List.take_succ_cons, List.drop_succ_cons, List.take_zero, List.drop_zero]
      repeat (first | (refine BigFrame.wpQuiet_want (by rfl) (fun K hK => quiet_ld_mod _ rfl (w.heap.size) rfl MB (fun w1 ⟨i, e⟩ => by rw [e]; exact HB3.out.step i.prop hWR) H17b.out (hK _ ?_)); clear hK K; simp only [Act.put, List.setIfInBounds_toArray, List.set_cons_succ, List.set_cons_zero]) | (go_big_quiet_step (fail)))
      refine wpQuiet_nil ?_
      refine Mix.wpL_op (by rfl) (fun K hK => ?_)
      go_simp
      refine HCn.out.mono ?_
      rintro e w4 ⟨⟨z4, rfl⟩, hs4⟩
      have HS34 : Hid (Step (fun _ => False) W3 w4) := Step.refl.drew.trans hs4
      have HZ4 := Lib.hid (HZ3.out.step HS34.out id)
      have HF4 : Hid (Step (fun k => k = w.heap.size + 1 + 1) W3 w4) := HS34.out.mono (fun _ _ h => h.elim)
      clear hs4
      refine hK _ _ (fun hlt => Mix.cl (HF4.out)) ?_
      clear hK K
      refine Mix.wpL_reads 6 (by rfl) ?_
      simp only [List.take_succ_cons, List.drop_succ_cons, List.take_zero, List.drop_zero]
      repeat (go_big_quiet_step (fail))
      refine wpQuiet_nil ?_
      refine Mix.wpL_op (by rfl) (fun K hK => ?_)
      refine wp_st_mod _ _ rfl rfl (w.heap.size + 1 + 1) rfl MB rfl HZ4.out rfl H17b.out H1b.out ?_
      refine hK _ _ (fun hlt => Mix.cl (Step.setRow (F := fun k => k = w.heap.size + 1 + 1) (g := w.heap.size + 1 + 1) HF4.out (.inl rfl) _)) ?_
      clear hK K
      refine Mix.wpL_reads 1 (by rfl) ?_
      simp only [List.take_succ_cons, List.drop_succ_cons, List.take_zero, List.drop_zero]
      repeat (go_big_quiet_step (fail))
      refine wpQuiet_nil ?_
      refine Mix.wpL_end ?_
      clear d0
      go_wp2_with fail
      have hst := (HS3.out.trans HS34.out).setRow (g := w.heap.size + 1 + 1) (.inr (by omega)) MB
      refine bodyPost_ret (v := .tuple #[.agg MB, .int .u32 _]) (res_mod2 Try.results46 (w.heap.size + 1 + 1) rfl rfl (Blk.row HZ4.out MB) H17b.out) rfl ?_
      refine ⟨_, rfl, ?_⟩
      rw [HRR.out]
      refine ⟨_, _, by rw [HMB.out], ?_, hst⟩
      have ho := own_step HO3.out (Step.setRow (F := fun k => k = w.heap.size + 1 + 1) (HS34.out.mono (fun _ _ h => h.elim)) (.inl rfl) MB) (fun k hk e => by subst e; exact own_tag HO3.out HZ3.out (by decide) hk)
      refine HRf.out.with5 hst ?_
      rw [List.length_append, ← HN.out]
      exact (Reads.of_own ho).mono fun k _ hk => own_ge ho k hk
  · refine Mxt.wpTL_reads ?_
    simp only [List.flatMap_cons, List.flatMap_nil, List.getElem?_cons_succ, List.getElem?_cons_zero, Option.toList_some, List.cons_append, List.nil_append]
    repeat (go_big_quiet_step (fail))
    refine wpQuiet_nil ?_
    refine Mxt.wpTL_op (by rfl) (fun K hK => ?_)
    go_simp
    refine hK _ _ (fun hlt => Mix.cl (Step.drew (Step.alloc Step.refl _))) ?_
    clear hK K
    refine Mxt.wpTL_reads ?_
    simp only [List.flatMap_cons, List.flatMap_nil, List.getElem?_cons_succ, List.getElem?_cons_zero, Option.toList_some, List.cons_append, List.nil_append]
    repeat (go_big_quiet_step (fail))
    refine wpQuiet_nil ?_
    refine Mxt.wpTL_op (by rfl) (fun K hK => ?_)
    go_simp
    refine hK _ _ (fun hlt => Mix.cl (Step.drew (Step.alloc (Step.alloc Step.refl _) _))) ?_
    clear hK K
    refine Mxt.wpTL_op (by rfl) (fun K hK => ?_)
    refine step_append_new (w0 := v4) (by rfl) _ _ (by rfl) E_gls (Step.drew (Step.alloc (Step.alloc Step.refl _) _)) (by rfl) (hfC) (by rfl) (hrC) hone1 hm1 (by omega) ?_
    intro D1 c1 W1 hown1 hS1 hgrow1 hat1
    refine hK _ _ (fun hlt => Mix.cl hS1) ?_
    clear hK K
    simp only [Act.put, List.setIfInBounds_toArray, List.set_cons_succ, List.set_cons_zero, Nat.zero_add]
    simp only [Nat.zero_add] at hown1
    have hx1 := hxC.step (Step.grown (F := fun k => blkOf (some (⟨v4.heap.size + 1, 0, none⟩ : Addr)) = some k) Step.refl hgrow1 (fun k hk => .inl hk)) (fun k hk e => by simp [blkOf] at e; omega)
    refine Mxt.wpTL_op (by rfl) (fun K hK => ?_)
    refine step_append_new (w0 := v4) (by rfl) _ _ (by rfl) E_gls (hS1) (by rfl) (hown1) (by rfl) (hx1) hone2 hm2 (by omega) ?_
    intro D2 c2 W2 hown2 hS2 hgrow2 hat2
    refine hK _ _ (fun hlt => Mix.cl hS2) ?_
    clear hK K
    simp only [Act.put, List.setIfInBounds_toArray, List.set_cons_succ, List.set_cons_zero, Nat.zero_add]
    refine Mxt.wpTL_reads ?_
    simp only [List.flatMap_cons, List.flatMap_nil, List.getElem?_cons_succ, List.getElem?_cons_zero, Option.toList_some, List.cons_append, List.nil_append]
    repeat (go_big_quiet_step (fail))
    refine wpQuiet_nil ?_
    have hB2 := HB.out.step hS2 id
    have z0 := hB2.frozen 5
    have c0 := hB2.cell 5
    rw [HMA.out] at c0
    simp [mdC] at c0
    refine Mxt.wpTL_op (by rfl) (fun K hK => ?_)
    go_simp
    refine hK _ _ (fun hlt => absurd hlt (by decide)) ?_
    clear hK K z0 c0
    refine Mxt.wpTL_leaf ?_
    as_aux_lemma =>
    obtain ⟨W3, hW3⟩ : ∃ W3, W3 = W2.setCell ⟨w.heap.size, 5, none⟩ (.slice D2 (N + 1) c2) := ⟨_, rfl⟩
    obtain ⟨MB, hMB⟩ : ∃ MB, MB = mdC { a with A5 := D2, c5 := c2 } { s with gs := s.gs ++ [(⟨126, m, 66, n⟩ : Gl)] } := ⟨_, rfl⟩
    have HMB := Lib.hid hMB
    have H17b : Hid (MB.size = 17) := by rw [Hid, hMB]; rfl
    have H1b : Hid (MB.all (·.oneCell') = true) := by rw [Hid, hMB]; exact mdC_one _ _
    have HB3 : Hid (Blk W3 (w.heap.size) 41 MB) := by
      have := hB2.set_ 5 (.slice D2 (N + 1) c2)
      rw [← hW3, HMA.out] at this
      simp [mdC] at this
      rw [hMB]
      simp [mdC]
      rw [← HN.out]
      exact this
    have HZ3 : Hid (Blk W3 (w.heap.size + 1 + 1) 41 #[.slice none 0 0, .slice none 0 0, .slice none 0 0, .slice none 0 0, .slice none 0 0, .slice none 0 0, .slice none 0 0, .int .i64 0, .slice none 0 0, .slice none 0 0, .slice none 0 0, .bool false, .int .u32 0, .int .u32 0, .int .u32 0, .int .u32 0, .slice none 0 0]) := by rw [hW3]; exact (HZ.out.step hS2 id).far (by show (w.heap.size + 1 + 1 : Nat) ≠ w.heap.size; omega) _
    have HO3 : Hid (W3.ownsRow w.heap.size 73 6 (.slice D2 (N + 1) c2) (N + 1) (gls (s.gs ++ [(⟨126, m, 66, n⟩ : Gl)]))) := by
      rw [hW3, gls_last]
      exact own_set (own_base hown2 (fun k hk => by have h1 := own_ge hown2 k hk; have h2 := HS.out.size; omega)) (otag hown2 hB2 (by decide) |> fun h e => h (by rwa [ownBlock_slice] at e)) _
    have HS3 : Hid (Step (fun _ => False) w W3) := by rw [hW3]; exact (HS.out.trans hS2).setCell (.inr (by simp)) _
    have c0 := HB3.out.cell 5
    rw [hMB] at c0
    simp [mdC] at c0
    rw [← hW3]
    clear hW3 hB2 hown1 hown2 hS1 hS2 hgrow1 hgrow2 hat1 hat2 hMB
    rw [← HN.out] at c0
    have HRt : Hid (Rf W3 (fun k => S k ∨ w.heap.size ≤ k) { a with A5 := D2, c5 := c2 } { s with gs := s.gs ++ [(⟨126, m, 66, n⟩ : Gl)] }) := by
      refine HRf.out.with5 HS3.out ?_
      rw [List.length_append, ← HN.out]
      exact (Reads.of_own HO3.out).mono fun k _ hk => own_ge HO3.out k hk
    have hWR : w.heap.size ≠ w.heap.size + 1 + 1 := by omega
    have hCn := count_ok W3.drew { a with A5 := D2, c5 := c2 } { s with gs := s.gs ++ [(⟨126, m, 66, n⟩ : Gl)] } _ (HRt.out.step Step.refl.drew (fun _ _ => id)) hl2 3
    rw [show mdC { a with A5 := D2, c5 := c2 } { s with gs := s.gs ++ [(⟨126, m, 66, n⟩ : Gl)] } = MB from HMB.out.symm] at hCn
    have HCn := Lib.hid hCn
    clear hCn
    go_wp2_with fail
    have d0 := cls_cell (F := fun k => k = w.heap.size + 1 + 1) c0 hWR
    clear c0
    refine Mix.wp_region_mix [2, 9] [2, 9] (Step (fun k => k = w.heap.size + 1 + 1) W3) (by kernel_rfl) (by kernel_rfl) (Step.refl.drew) (fun hcls => ?_)
    refine Mix.wpL_reads 2 (by rfl) ?_
    simp only [List.take_succ_cons, List.drop_succ_cons, List.take_zero, List.drop_zero]
    repeat (first | (refine BigFrame.wpQuiet_want (by rfl) (fun K hK => quiet_ld_mod _ rfl (w.heap.size) rfl MB (fun w1 ⟨i, e⟩ => by rw [e]; exact HB3.out.step i.prop hWR) H17b.out (hK _ ?_)); clear hK K; simp only [Act.put, List.setIfInBounds_toArray, List.set_cons_succ, List.set_cons_zero]) | (go_big_quiet_step (fail)))
    refine wpQuiet_nil ?_
    refine Mix.wpL_op (by rfl) (fun K hK => ?_)
    go_simp
    refine HCn.out.mono ?_
    rintro e w4 ⟨⟨z4, rfl⟩, hs4⟩
    have HS34 : Hid (Step (fun _ => False) W3 w4) := Step.refl.drew.trans hs4
    have HZ4 := Lib.hid (HZ3.out.step HS34.out id)
    have HF4 : Hid (Step (fun k => k = w.heap.size + 1 + 1) W3 w4) := HS34.out.mono (fun _ _ h => h.elim)
    clear hs4
    refine hK _ _ (fun hlt => Mix.cl (HF4.out)) ?_
    clear hK K
    refine Mix.wpL_reads 6 (by rfl) ?_
    simp only [List.take_succ_cons, List.drop_succ_cons, List.take_zero, List.drop_zero]
    repeat (go_big_quiet_step (fail))
    refine wpQuiet_nil ?_
    refine Mix.wpL_op (by rfl) (fun K hK => ?_)
    refine wp_st_mod _ _ rfl rfl (w.heap.size + 1 + 1) rfl MB rfl HZ4.out rfl H17b.out H1b.out ?_
    refine hK _ _ (fun hlt => Mix.cl (Step.setRow (F := fun k => k = w.heap.size + 1 + 1) (g := w.heap.size + 1 + 1) HF4.out (.inl rfl) _)) ?_
    clear hK K
    refine Mix.wpL_reads 1 (by rfl) ?_
    simp only [List.take_succ_cons, List.drop_succ_cons, List.take_zero, List.drop_zero]
    repeat (go_big_quiet_step (fail))
    refine wpQuiet_nil ?_
    refine Mix.wpL_end ?_
    clear d0
    go_wp2_with fail
    have hst := (HS3.out.trans HS34.out).setRow (g := w.heap.size + 1 + 1) (.inr (by omega)) MB
    refine bodyPost_ret (v := .tuple #[.agg MB, .int .u32 _]) (res_mod2 Try.results46 (w.heap.size + 1 + 1) rfl rfl (Blk.row HZ4.out MB) H17b.out) rfl ?_
    refine ⟨_, rfl, ?_⟩
    rw [HRR.out]
    refine ⟨_, _, by rw [HMB.out], ?_, hst⟩
    have ho := own_step HO3.out (Step.setRow (F := fun k => k = w.heap.size + 1 + 1) (HS34.out.mono (fun _ _ h => h.elim)) (.inl rfl) MB) (fun k hk e => by subst e; exact own_tag HO3.out HZ3.out (by decide) hk)
    refine HRf.out.with5 hst ?_
    rw [List.length_append, ← HN.out]
    exact (Reads.of_own ho).mono fun k _ hk => own_ge ho k hk

set_option maxRecDepth 100000 in
set_option maxHeartbeats 12800000 in
theorem rglob_n (hR : Rf w S a s) (hl : s.gs.length ≤ 1000) (hl2 : s.is.length ≤ 1000) (t n : Nat) (m : Bool) (ht : ¬ t = 126) :
    Calls Try.prog 46 #[.agg (mdC a s), .agg #[Value.int .u8 (t : Int), .int .u64 (n : Int)], .bool m] w fun e w' => ∃ a' z, e = .returned (.tuple #[.agg (mdC a' { s with gs := s.gs ++ [(⟨t, m, 65, n⟩ : Gl)] }), .int .u32 z]) ∧ Rf w' (fun k => S k ∨ w.heap.size ≤ k) a' { s with gs := s.gs ++ [(⟨t, m, 65, n⟩ : Gl)] } ∧ Step (fun _ => False) w w' := by
  have e1' : ((t : Int) == 126) = false := beq_eq_false_iff_ne.2 (by omega)
  have e2' : ¬ (t : Int) = 126 := by omega
  have HRf := Lib.hid hR
  obtain ⟨N, hN⟩ : ∃ N, N = s.gs.length := ⟨_, rfl⟩
  have HN := Lib.hid hN
  rw [← hN] at hl
  obtain ⟨v1, hv1⟩ : ∃ v1, v1 = w.alloc (.cells (mdC a s) 41) := ⟨_, rfl⟩
  obtain ⟨v2, hv2⟩ : ∃ v2, v2 = v1.alloc (.cells #[Value.int .u8 (t : Int), .int .u64 (n : Int)] 50) := ⟨_, rfl⟩
  obtain ⟨v3, hv3⟩ : ∃ v3, v3 = v2.alloc (.cells #[.slice none 0 0, .slice none 0 0, .slice none 0 0, .slice none 0 0, .slice none 0 0, .slice none 0 0, .slice none 0 0, .int .i64 0, .slice none 0 0, .slice none 0 0, .slice none 0 0, .bool false, .int .u32 0, .int .u32 0, .int .u32 0, .int .u32 0, .slice none 0 0] 41) := ⟨_, rfl⟩
  obtain ⟨v4, hv4⟩ : ∃ v4, v4 = v3.alloc (.cells #[Value.int .u8 65, .int .u64 (n : Int), .int .u64 0, .slice none 0 0] 59) := ⟨_, rfl⟩
  have e0 : w.heap.size = w.heap.size := rfl
  have e1 : v1.heap.size = w.heap.size + 1 := by rw [hv1]; simp [e0]
  have s1 : Step (fun _ => False) w v1 := by rw [hv1]; exact Step.alloc Step.refl _
  have e2 : v2.heap.size = w.heap.size + 1 + 1 := by rw [hv2]; simp [e1]
  have s2 : Step (fun _ => False) v1 v2 := by rw [hv2]; exact Step.alloc Step.refl _
  have e3 : v3.heap.size = w.heap.size + 1 + 1 + 1 := by rw [hv3]; simp [e2]
  have s3 : Step (fun _ => False) v2 v3 := by rw [hv3]; exact Step.alloc Step.refl _
  have e4 : v4.heap.size = w.heap.size + 1 + 1 + 1 + 1 := by rw [hv4]; simp [e3]
  have s4 : Step (fun _ => False) v3 v4 := by rw [hv4]; exact Step.alloc Step.refl _
  have HB : Hid (Blk v4 (w.heap.size) 41 (mdC a s)) := by
    have h1 : Blk v1 w.heap.size 41 (mdC a s) := by rw [hv1]; exact Blk.new w _ _
    exact (((h1.step s2 id).step s3 id).step s4 id)
  have HX : Hid (Blk v4 (w.heap.size + 1) 50 #[Value.int .u8 (t : Int), .int .u64 (n : Int)]) := by
    have h1 : Blk v2 v1.heap.size 50 #[Value.int .u8 (t : Int), .int .u64 (n : Int)] := by rw [hv2]; exact Blk.new v1 _ _
    rw [e1] at h1
    exact ((h1.step s3 id).step s4 id)
  have HZ : Hid (Blk v4 (w.heap.size + 1 + 1) 41 #[.slice none 0 0, .slice none 0 0, .slice none 0 0, .slice none 0 0, .slice none 0 0, .slice none 0 0, .slice none 0 0, .int .i64 0, .slice none 0 0, .slice none 0 0, .slice none 0 0, .bool false, .int .u32 0, .int .u32 0, .int .u32 0, .int .u32 0, .slice none 0 0]) := by
    have h1 : Blk v3 v2.heap.size 41 #[.slice none 0 0, .slice none 0 0, .slice none 0 0, .slice none 0 0, .slice none 0 0, .slice none 0 0, .slice none 0 0, .int .i64 0, .slice none 0 0, .slice none 0 0, .slice none 0 0, .bool false, .int .u32 0, .int .u32 0, .int .u32 0, .int .u32 0, .slice none 0 0] := by rw [hv3]; exact Blk.new v2 _ _
    rw [e2] at h1
    exact (h1.step s4 id)
  have HI : Hid (Blk v4 (w.heap.size + 1 + 1 + 1) 59 #[Value.int .u8 65, .int .u64 (n : Int), .int .u64 0, .slice none 0 0]) := by
    have h1 : Blk v4 v3.heap.size 59 #[Value.int .u8 65, .int .u64 (n : Int), .int .u64 0, .slice none 0 0] := by rw [hv4]; exact Blk.new v3 _ _
    rw [e3] at h1
    exact h1
  have HS : Hid (Step (fun _ => False) w v4) := s1 |>.trans s2 |>.trans s3 |>.trans s4
  have HE1 := Lib.hid hv1
  have HE2 := Lib.hid hv2
  have HE3 := Lib.hid hv3
  have HE4 := Lib.hid hv4
  clear e1 s1 hv1 e2 s2 hv2 e3 s3 hv3 e4 s4 hv4 e0
  obtain ⟨MA, hMA⟩ : ∃ MA, MA = mdC a s := ⟨_, rfl⟩
  rw [← hMA] at HE1 HB ⊢
  have HMA := Lib.hid hMA
  have H17 : Hid (MA.size = 17) := by rw [Hid, hMA]; rfl
  have H1 : Hid (MA.all (·.oneCell') = true) := by rw [Hid, hMA]; exact mdC_one a s
  clear hMA
  have HGl : Hid (#[Value.int .u8 (t : Int), .bool m, .int .u8 65, .int .u64 (n : Int), .int .u64 0, .slice none 0 0].toList = (⟨t, m, 65, n⟩ : Gl).cells) := rfl
  obtain ⟨RR, hRR⟩ : ∃ RR : Value → World → Prop, RR = fun e w' => ∃ a' z, e = .tuple #[.agg (mdC a' { s with gs := s.gs ++ [(⟨t, m, 65, n⟩ : Gl)] }), .int .u32 z] ∧ Rf w' (fun k => S k ∨ w.heap.size ≤ k) a' { s with gs := s.gs ++ [(⟨t, m, 65, n⟩ : Gl)] } ∧ Step (fun _ => False) w w' := ⟨_, rfl⟩
  have HRR := Lib.hid hRR
  refine (show Calls Try.prog 46 #[.agg MA, .agg #[Value.int .u8 (t : Int), .int .u64 (n : Int)], .bool m] w (fun e w' => ∃ v, e = .returned v ∧ RR v w') from ?_ ).mono ?h2
  case h2 =>
    rintro e w' ⟨v, rfl, hv⟩
    rw [HRR.out] at hv
    obtain ⟨a', z, rfl, hv⟩ := hv
    exact ⟨a', z, rfl, hv⟩
  clear hRR
  have hHX := HX.out
  rw [HE4.out, HE3.out, HE2.out, HE1.out] at hHX
  have x0 := hHX.cell 0
  have x1 := hHX.cell 1
  simp at x0 x1
  clear hR hN hHX
  go_enter Try.func46, Try.ntmps46
  go_wp2_with fail
  rw [← HE1.out]
  rw [← HE2.out]
  rw [← HE3.out]
  rw [← HE4.out]
  clear x0 x1
  have c5 := HB.out.cell 5
  rw [HMA.out] at c5
  simp [mdC] at c5
  rw [← HN.out] at c5
  have y0 := HX.out.cell 0
  have i0 := HI.out.cell 0
  have i1 := HI.out.cell 1
  have i2 := HI.out.cell 2
  have i3 := HI.out.cell 3
  simp at y0 i0 i1 i2 i3
  have d5 := cls_cell (F := fun _ => False) c5 id
  have dy := cls_cell (F := fun _ => False) y0 id
  have di0 := cls_cell (F := fun _ => False) i0 id
  have di1 := cls_cell (F := fun _ => False) i1 id
  have di2 := cls_cell (F := fun _ => False) i2 id
  have di3 := cls_cell (F := fun _ => False) i3 id
  clear c5 y0 i0 i1 i2 i3
  have hsrc := HRf.out.r5.step HS.out (fun _ _ => id)
  rw [← HN.out] at hsrc
  have hone1 := gls_one s.gs
  have hone2 : ∀ u ∈ #[Value.int .u8 (t : Int), .bool m, .int .u8 65, .int .u64 (n : Int), .int .u64 0, .slice none 0 0].toList, u.oneCell' = true := by simp [Value.oneCell']
  have hm1 : 0 + N ≤ maxLen := by unfold maxLen; omega
  have hm2 : N + 1 ≤ maxLen := by unfold maxLen; omega
  have hz1 : (v4.alloc (.cells #[Value.int .u8 (t : Int), .bool m, .int .u8 65, .int .u64 (n : Int), .int .u64 0, .slice none 0 0] 73)).heap.size = v4.heap.size + 1 := by simp
  have hz0 : (v4.alloc (.cells #[] 73)).heap.size = v4.heap.size + 1 := by simp
  have hfA : (v4.alloc (.cells #[] 73)).drew.ownsRow v4.heap.size 73 6 (.slice (some ⟨v4.heap.size, 0, none⟩) 0 0) 0 [] := own_drew (own_fresh 6 (Nat.le_refl _))
  have hrA := hsrc.step (F := fun _ => False) (Step.drew (Step.alloc Step.refl (.cells #[] 73))) (fun _ _ => id)
  have hfB : ((v4.alloc (.cells #[] 73)).alloc (.cells #[Value.int .u8 (t : Int), .bool m, .int .u8 65, .int .u64 (n : Int), .int .u64 0, .slice none 0 0] 73)).drew.ownsRow v4.heap.size 73 6 (.slice (some ⟨v4.heap.size, 0, none⟩) 0 0) 0 [] := own_drew ((own_fresh 6 (Nat.le_refl _)).alloc _)
  have hrB := hsrc.step (F := fun _ => False) (Step.drew (Step.alloc (Step.alloc Step.refl (.cells #[] 73)) (.cells #[Value.int .u8 (t : Int), .bool m, .int .u8 65, .int .u64 (n : Int), .int .u64 0, .slice none 0 0] 73))) (fun _ _ => id)
  have hxB := (reads_new (v4.alloc (.cells #[] 73)) #[Value.int .u8 (t : Int), .bool m, .int .u8 65, .int .u64 (n : Int), .int .u64 0, .slice none 0 0] 73 6 1 rfl).drew
  have hfC : ((v4.alloc (.cells #[Value.int .u8 (t : Int), .bool m, .int .u8 65, .int .u64 (n : Int), .int .u64 0, .slice none 0 0] 73)).alloc (.cells #[] 73)).drew.ownsRow v4.heap.size 73 6 (.slice (some ⟨v4.heap.size + 1, 0, none⟩) 0 0) 0 [] := by
    have := own_drew (own_fresh (w := v4.alloc (.cells #[Value.int .u8 (t : Int), .bool m, .int .u8 65, .int .u64 (n : Int), .int .u64 0, .slice none 0 0] 73)) (e := 73) (base := v4.heap.size) 6 (by omega))
    rwa [hz1] at this
  have hrC := hsrc.step (F := fun _ => False) (Step.drew (Step.alloc (Step.alloc Step.refl (.cells #[Value.int .u8 (t : Int), .bool m, .int .u8 65, .int .u64 (n : Int), .int .u64 0, .slice none 0 0] 73)) (.cells #[] 73))) (fun _ _ => id)
  have hxC := ((reads_new v4 #[Value.int .u8 (t : Int), .bool m, .int .u8 65, .int .u64 (n : Int), .int .u64 0, .slice none 0 0] 73 6 1 rfl).step (F := fun _ => False) (Step.alloc Step.refl (.cells #[] 73)) (fun _ _ => id)).drew
  rw [hz0] at hxB
  refine Mxt.wp_region_tree [0, 3, 10, 11, 13] [0, 3, 10, 11] (.fork (.op 0 (.reads [1, 2] (.fork (.op 3 (.reads [4, 5, 6, 7, 8, 9] (.op 10 (.op 11 (.reads [12] (.op 13 .leaf)))))) (.reads [4, 5, 6, 7, 8, 9] (.op 10 (.op 3 (.op 11 (.reads [12] (.op 13 .leaf))))))))) (.reads [4, 5, 6, 7, 8, 9] (.op 10 (.reads [1, 2] (.op 0 (.op 3 (.op 11 (.reads [12] (.op 13 .leaf))))))))) (Step (fun _ => False) v4) (by kernel_rfl) (by kernel_rfl) Step.refl.drew (fun hcls => ?_)
  refine Mxt.wpTL_fork ?_ ?_
  · refine Mxt.wpTL_op (by rfl) (fun K hK => ?_)
    go_simp
    refine hK _ _ (fun hlt => Mix.cl (Step.drew (Step.alloc Step.refl _))) ?_
    clear hK K
    refine Mxt.wpTL_reads ?_
    simp only [List.flatMap_cons, List.flatMap_nil, List.getElem?_cons_succ, List.getElem?_cons_zero, Option.toList_some, List.cons_append, List.nil_append]
    repeat (go_big_quiet_step (fail))
    refine wpQuiet_nil ?_
    refine Mxt.wpTL_fork ?_ ?_
    · refine Mxt.wpTL_op (by rfl) (fun K hK => ?_)
      refine step_append_new (w0 := v4) (by rfl) _ _ (by rfl) E_gls (Step.drew (Step.alloc Step.refl _)) (by rfl) (hfA) (by rfl) (hrA) hone1 hm1 (by omega) ?_
      intro D1 c1 W1 hown1 hS1 hgrow1 hat1
      refine hK _ _ (fun hlt => Mix.cl hS1) ?_
      clear hK K
      simp only [Act.put, List.setIfInBounds_toArray, List.set_cons_succ, List.set_cons_zero, Nat.zero_add]
      simp only [Nat.zero_add] at hown1
      refine Mxt.wpTL_reads ?_
      simp only [List.flatMap_cons, List.flatMap_nil, List.getElem?_cons_succ, List.getElem?_cons_zero, Option.toList_some, List.cons_append, List.nil_append]
      repeat (go_big_quiet_step (fail))
      refine wpQuiet_nil ?_
      refine Mxt.wpTL_op (by rfl) (fun K hK => ?_)
      go_simp
      refine hK _ _ (fun hlt => Mix.cl (Step.alloc hS1 _)) ?_
      clear hK K
      refine Mxt.wpTL_op (by rfl) (fun K hK => ?_)
      refine step_append_new (w0 := v4) (by rfl) _ _ (by rfl) E_gls (Step.alloc hS1 _) (by rfl) (hown1.alloc _) (by rfl) (reads_new W1 #[Value.int .u8 (t : Int), .bool m, .int .u8 65, .int .u64 (n : Int), .int .u64 0, .slice none 0 0] 73 6 1 rfl) hone2 hm2 (by omega) ?_
      intro D2 c2 W2 hown2 hS2 hgrow2 hat2
      refine hK _ _ (fun hlt => Mix.cl hS2) ?_
      clear hK K
      simp only [Act.put, List.setIfInBounds_toArray, List.set_cons_succ, List.set_cons_zero, Nat.zero_add]
      refine Mxt.wpTL_reads ?_
      simp only [List.flatMap_cons, List.flatMap_nil, List.getElem?_cons_succ, List.getElem?_cons_zero, Option.toList_some, List.cons_append, List.nil_append]
      repeat (go_big_quiet_step (fail))
      refine wpQuiet_nil ?_
      have hB2 := HB.out.step hS2 id
      have z0 := hB2.frozen 5
      have c0 := hB2.cell 5
      rw [HMA.out] at c0
      simp [mdC] at c0
      refine Mxt.wpTL_op (by rfl) (fun K hK => ?_)
      go_simp
      refine hK _ _ (fun hlt => absurd hlt (by decide)) ?_
      clear hK K z0 c0
      refine Mxt.wpTL_leaf ?_
      as_aux_lemma =>
      obtain ⟨W3, hW3⟩ : ∃ W3, W3 = W2.setCell ⟨w.heap.size, 5, none⟩ (.slice D2 (N + 1) c2) := ⟨_, rfl⟩
      obtain ⟨MB, hMB⟩ : ∃ MB, MB = mdC { a with A5 := D2, c5 := c2 } { s with gs := s.gs ++ [(⟨t, m, 65, n⟩ : Gl)] } := ⟨_, rfl⟩
      have HMB := Lib.hid hMB
      have H17b : Hid (MB.size = 17) := by rw [Hid, hMB]; rfl
      have H1b : Hid (MB.all (·.oneCell') = true) := by rw [Hid, hMB]; exact mdC_one _ _
      have HB3 : Hid (Blk W3 (w.heap.size) 41 MB) := by
        have := hB2.set_ 5 (.slice D2 (N + 1) c2)
        rw [← hW3, HMA.out] at this
        simp [mdC] at this
        rw [hMB]
        simp [mdC]
        rw [← HN.out]
        exact this
      have HZ3 : Hid (Blk W3 (w.heap.size + 1 + 1) 41 #[.slice none 0 0, .slice none 0 0, .slice none 0 0, .slice none 0 0, .slice none 0 0, .slice none 0 0, .slice none 0 0, .int .i64 0, .slice none 0 0, .slice none 0 0, .slice none 0 0, .bool false, .int .u32 0, .int .u32 0, .int .u32 0, .int .u32 0, .slice none 0 0]) := by rw [hW3]; exact (HZ.out.step hS2 id).far (by show (w.heap.size + 1 + 1 : Nat) ≠ w.heap.size; omega) _
      have HO3 : Hid (W3.ownsRow w.heap.size 73 6 (.slice D2 (N + 1) c2) (N + 1) (gls (s.gs ++ [(⟨t, m, 65, n⟩ : Gl)]))) := by
        rw [hW3, gls_last]
        exact own_set (own_base hown2 (fun k hk => by have h1 := own_ge hown2 k hk; have h2 := HS.out.size; omega)) (otag hown2 hB2 (by decide) |> fun h e => h (by rwa [ownBlock_slice] at e)) _
      have HS3 : Hid (Step (fun _ => False) w W3) := by rw [hW3]; exact (HS.out.trans hS2).setCell (.inr (by simp)) _
      have c0 := HB3.out.cell 5
      rw [hMB] at c0
      simp [mdC] at c0
      rw [← hW3]
      clear hW3 hB2 hown1 hown2 hS1 hS2 hgrow1 hgrow2 hat1 hat2 hMB
      rw [← HN.out] at c0
      have HRt : Hid (Rf W3 (fun k => S k ∨ w.heap.size ≤ k) { a with A5 := D2, c5 := c2 } { s with gs := s.gs ++ [(⟨t, m, 65, n⟩ : Gl)] }) := by
        refine HRf.out.with5 HS3.out ?_
        rw [List.length_append, ← HN.out]
        exact (Reads.of_own HO3.out).mono fun k _ hk => own_ge HO3.out k hk
      have hWR : w.heap.size ≠ w.heap.size + 1 + 1 := by omega
      have hCn := count_ok W3.drew { a with A5 := D2, c5 := c2 } { s with gs := s.gs ++ [(⟨t, m, 65, n⟩ : Gl)] } _ (HRt.out.step Step.refl.drew (fun _ _ => id)) hl2 3
      rw [show mdC { a with A5 := D2, c5 := c2 } { s with gs := s.gs ++ [(⟨t, m, 65, n⟩ : Gl)] } = MB from HMB.out.symm] at hCn
      have HCn := Lib.hid hCn
      clear hCn
      go_wp2_with fail
      have d0 := cls_cell (F := fun k => k = w.heap.size + 1 + 1) c0 hWR
      clear c0
      refine Mix.wp_region_mix [2, 9] [2, 9] (Step (fun k => k = w.heap.size + 1 + 1) W3) (by kernel_rfl) (by kernel_rfl) (Step.refl.drew) (fun hcls => ?_)
      refine Mix.wpL_reads 2 (by rfl) ?_
      simp only [List.take_succ_cons, List.drop_succ_cons, List.take_zero, List.drop_zero]
      repeat (first | (refine BigFrame.wpQuiet_want (by rfl) (fun K hK => quiet_ld_mod _ rfl (w.heap.size) rfl MB (fun w1 ⟨i, e⟩ => by rw [e]; exact HB3.out.step i.prop hWR) H17b.out (hK _ ?_)); clear hK K; simp only [Act.put, List.setIfInBounds_toArray, List.set_cons_succ, List.set_cons_zero]) | (go_big_quiet_step (fail)))
      refine wpQuiet_nil ?_
      refine Mix.wpL_op (by rfl) (fun K hK => ?_)
      go_simp
      refine HCn.out.mono ?_
      rintro e w4 ⟨⟨z4, rfl⟩, hs4⟩
      have HS34 : Hid (Step (fun _ => False) W3 w4) := Step.refl.drew.trans hs4
      have HZ4 := Lib.hid (HZ3.out.step HS34.out id)
      have HF4 : Hid (Step (fun k => k = w.heap.size + 1 + 1) W3 w4) := HS34.out.mono (fun _ _ h => h.elim)
      clear hs4
      refine hK _ _ (fun hlt => Mix.cl (HF4.out)) ?_
      clear hK K
      refine Mix.wpL_reads 6 (by rfl) ?_
      simp only [List.take_succ_cons, List.drop_succ_cons, List.take_zero, List.drop_zero]
      repeat (go_big_quiet_step (fail))
      refine wpQuiet_nil ?_
      refine Mix.wpL_op (by rfl) (fun K hK => ?_)
      refine wp_st_mod _ _ rfl rfl (w.heap.size + 1 + 1) rfl MB rfl HZ4.out rfl H17b.out H1b.out ?_
      refine hK _ _ (fun hlt => Mix.cl (Step.setRow (F := fun k => k = w.heap.size + 1 + 1) (g := w.heap.size + 1 + 1) HF4.out (.inl rfl) _)) ?_
      clear hK K
      refine Mix.wpL_reads 1 (by rfl) ?_
      simp only [List.take_succ_cons, List.drop_succ_cons, List.take_zero, List.drop_zero]
      repeat (go_big_quiet_step (fail))
      refine wpQuiet_nil ?_
      refine Mix.wpL_end ?_
      clear d0
      go_wp2_with fail
      have hst := (HS3.out.trans HS34.out).setRow (g := w.heap.size + 1 + 1) (.inr (by omega)) MB
      refine bodyPost_ret (v := .tuple #[.agg MB, .int .u32 _]) (res_mod2 Try.results46 (w.heap.size + 1 + 1) rfl rfl (Blk.row HZ4.out MB) H17b.out) rfl ?_
      refine ⟨_, rfl, ?_⟩
      rw [HRR.out]
      refine ⟨_, _, by rw [HMB.out], ?_, hst⟩
      have ho := own_step HO3.out (Step.setRow (F := fun k => k = w.heap.size + 1 + 1) (HS34.out.mono (fun _ _ h => h.elim)) (.inl rfl) MB) (fun k hk e => by subst e; exact own_tag HO3.out HZ3.out (by decide) hk)
      refine HRf.out.with5 hst ?_
      rw [List.length_append, ← HN.out]
      exact (Reads.of_own ho).mono fun k _ hk => own_ge ho k hk
    · refine Mxt.wpTL_reads ?_
      simp only [List.flatMap_cons, List.flatMap_nil, List.getElem?_cons_succ, List.getElem?_cons_zero, Option.toList_some, List.cons_append, List.nil_append]
      repeat (go_big_quiet_step (fail))
      refine wpQuiet_nil ?_
      refine Mxt.wpTL_op (by rfl) (fun K hK => ?_)
      go_simp
      refine hK _ _ (fun hlt => Mix.cl (Step.drew (Step.alloc (Step.alloc Step.refl _) _))) ?_
      clear hK K
      refine Mxt.wpTL_op (by rfl) (fun K hK => ?_)
      refine step_append_new (w0 := v4) (by rfl) _ _ (by rfl) E_gls (Step.drew (Step.alloc (Step.alloc Step.refl _) _)) (by rfl) (hfB) (by rfl) (hrB) hone1 hm1 (by omega) ?_
      intro D1 c1 W1 hown1 hS1 hgrow1 hat1
      refine hK _ _ (fun hlt => Mix.cl hS1) ?_
      clear hK K
      simp only [Act.put, List.setIfInBounds_toArray, List.set_cons_succ, List.set_cons_zero, Nat.zero_add]
      simp only [Nat.zero_add] at hown1
      have hx1 := hxB.step (Step.grown (F := fun k => blkOf (some (⟨v4.heap.size, 0, none⟩ : Addr)) = some k) Step.refl hgrow1 (fun k hk => .inl hk)) (fun k hk e => by simp [blkOf] at e; omega)
      refine Mxt.wpTL_op (by rfl) (fun K hK => ?_)
      refine step_append_new (w0 := v4) (by rfl) _ _ (by rfl) E_gls (hS1) (by rfl) (hown1) (by rfl) (hx1) hone2 hm2 (by omega) ?_
      intro D2 c2 W2 hown2 hS2 hgrow2 hat2
      refine hK _ _ (fun hlt => Mix.cl hS2) ?_
      clear hK K
      simp only [Act.put, List.setIfInBounds_toArray, List.set_cons_succ, List.set_cons_zero, Nat.zero_add]
      refine Mxt.wpTL_reads ?_
      simp only [List.flatMap_cons, List.flatMap_nil, List.getElem?_cons_succ, List.getElem?_cons_zero, Option.toList_some, List.cons_append, List.nil_append]
      repeat (go_big_quiet_step (fail))
      refine wpQuiet_nil ?_
      have hB2 := HB.out.step hS2 id
      have z0 := hB2.frozen 5
      have c0 := hB2.cell 5
      rw [HMA.out] at c0
      simp [mdC] at c0
      refine Mxt.wpTL_op (by rfl) (fun K hK => ?_)
      go_simp
      refine hK _ _ (fun hlt => absurd hlt (by decide)) ?_
      clear hK K z0 c0
      refine Mxt.wpTL_leaf ?_
      as_aux_lemma =>
      obtain ⟨W3, hW3⟩ : ∃ W3, W3 = W2.setCell ⟨w.heap.size, 5, none⟩ (.slice D2 (N + 1) c2) := ⟨_, rfl⟩
      obtain ⟨MB, hMB⟩ : ∃ MB, MB = mdC { a with A5 := D2, c5 := c2 } { s with gs := s.gs ++ [(⟨t, m, 65, n⟩ : Gl)] } := ⟨_, rfl⟩
      have HMB := Lib.hid hMB
      have H17b : Hid (MB.size = 17) := by rw [Hid, hMB]; rfl
      have H1b : Hid (MB.all (·.oneCell') = true) := by rw [Hid, hMB]; exact mdC_one _ _
      have HB3 : Hid (Blk W3 (w.heap.size) 41 MB) := by
        have := hB2.set_ 5 (.slice D2 (N + 1) c2)
        rw [← hW3, HMA.out] at this
        simp [mdC] at this
        rw [hMB]
        simp [mdC]
        rw [← HN.out]
        exact this
      have HZ3 : Hid (Blk W3 (w.heap.size + 1 + 1) 41 #[.slice none 0 0, .slice none 0 0, .slice none 0 0, .slice none 0 0, .slice none 0 0, .slice none 0 0, .slice none 0 0, .int .i64 0, .slice none 0 0, .slice none 0 0, .slice none 0 0, .bool false, .int .u32 0, .int .u32 0, .int .u32 0, .int .u32 0, .slice none 0 0]) := by rw [hW3]; exact (HZ.out.step hS2 id).far (by show (w.heap.size + 1 + 1 : Nat) ≠ w.heap.size; omega) _
      have HO3 : Hid (W3.ownsRow w.heap.size 73 6 (.slice D2 (N + 1) c2) (N + 1) (gls (s.gs ++ [(⟨t, m, 65, n⟩ : Gl)]))) := by
        rw [hW3, gls_last]
        exact own_set (own_base hown2 (fun k hk => by have h1 := own_ge hown2 k hk; have h2 := HS.out.size; omega)) (otag hown2 hB2 (by decide) |> fun h e => h (by rwa [ownBlock_slice] at e)) _
      have HS3 : Hid (Step (fun _ => False) w W3) := by rw [hW3]; exact (HS.out.trans hS2).setCell (.inr (by simp)) _
      have c0 := HB3.out.cell 5
      rw [hMB] at c0
      simp [mdC] at c0
      rw [← hW3]
      clear hW3 hB2 hown1 hown2 hS1 hS2 hgrow1 hgrow2 hat1 hat2 hMB
      rw [← HN.out] at c0
      have HRt : Hid (Rf W3 (fun k => S k ∨ w.heap.size ≤ k) { a with A5 := D2, c5 := c2 } { s with gs := s.gs ++ [(⟨t, m, 65, n⟩ : Gl)] }) := by
        refine HRf.out.with5 HS3.out ?_
        rw [List.length_append, ← HN.out]
        exact (Reads.of_own HO3.out).mono fun k _ hk => own_ge HO3.out k hk
      have hWR : w.heap.size ≠ w.heap.size + 1 + 1 := by omega
      have hCn := count_ok W3.drew { a with A5 := D2, c5 := c2 } { s with gs := s.gs ++ [(⟨t, m, 65, n⟩ : Gl)] } _ (HRt.out.step Step.refl.drew (fun _ _ => id)) hl2 3
      rw [show mdC { a with A5 := D2, c5 := c2 } { s with gs := s.gs ++ [(⟨t, m, 65, n⟩ : Gl)] } = MB from HMB.out.symm] at hCn
      have HCn := Lib.hid hCn
      clear hCn
      go_wp2_with fail
      have d0 := cls_cell (F := fun k => k = w.heap.size + 1 + 1) c0 hWR
      clear c0
      refine Mix.wp_region_mix [2, 9] [2, 9] (Step (fun k => k = w.heap.size + 1 + 1) W3) (by kernel_rfl) (by kernel_rfl) (Step.refl.drew) (fun hcls => ?_)
      refine Mix.wpL_reads 2 (by rfl) ?_
      simp only [List.take_succ_cons, List.drop_succ_cons, List.take_zero, List.drop_zero]
      repeat (first | (refine BigFrame.wpQuiet_want (by rfl) (fun K hK => quiet_ld_mod _ rfl (w.heap.size) rfl MB (fun w1 ⟨i, e⟩ => by rw [e]; exact HB3.out.step i.prop hWR) H17b.out (hK _ ?_)); clear hK K; simp only [Act.put, List.setIfInBounds_toArray, List.set_cons_succ, List.set_cons_zero]) | (go_big_quiet_step (fail)))
      refine wpQuiet_nil ?_
      refine Mix.wpL_op (by rfl) (fun K hK => ?_)
      go_simp
      refine HCn.out.mono ?_
      rintro e w4 ⟨⟨z4, rfl⟩, hs4⟩
      have HS34 : Hid (Step (fun _ => False) W3 w4) := Step.refl.drew.trans hs4
      have HZ4 := Lib.hid (HZ3.out.step HS34.out id)
      have HF4 : Hid (Step (fun k => k = w.heap.size + 1 + 1) W3 w4) := HS34.out.mono (fun _ _ h => h.elim)
      clear hs4
      refine hK _ _ (fun hlt => Mix.cl (HF4.out)) ?_
      clear hK K
      refine Mix.wpL_reads 6 (by rfl) ?_
      simp only [List.take_succ_cons, List.drop_succ_cons, List.take_zero, List.drop_zero]
      repeat (go_big_quiet_step (fail))
      refine wpQuiet_nil ?_
      refine Mix.wpL_op (by rfl) (fun K hK => ?_)
      refine wp_st_mod _ _ rfl rfl (w.heap.size + 1 + 1) rfl MB rfl HZ4.out rfl H17b.out H1b.out ?_
      refine hK _ _ (fun hlt => Mix.cl (Step.setRow (F := fun k => k = w.heap.size + 1 + 1) (g := w.heap.size + 1 + 1) HF4.out (.inl rfl) _)) ?_
      clear hK K
      refine Mix.wpL_reads 1 (by rfl) ?_
      simp only [List.take_succ_cons, List.drop_succ_cons, List.take_zero, List.drop_zero]
      repeat (go_big_quiet_step (fail))
      refine wpQuiet_nil ?_
      refine Mix.wpL_end ?_
      clear d0
      go_wp2_with fail
      have hst := (HS3.out.trans HS34.out).setRow (g := w.heap.size + 1 + 1) (.inr (by omega)) MB
      refine bodyPost_ret (v := .tuple #[.agg MB, .int .u32 _]) (res_mod2 Try.results46 (w.heap.size + 1 + 1) rfl rfl (Blk.row HZ4.out MB) H17b.out) rfl ?_
      refine ⟨_, rfl, ?_⟩
      rw [HRR.out]
      refine ⟨_, _, by rw [HMB.out], ?_, hst⟩
      have ho := own_step HO3.out (Step.setRow (F := fun k => k = w.heap.size + 1 + 1) (HS34.out.mono (fun _ _ h => h.elim)) (.inl rfl) MB) (fun k hk e => by subst e; exact own_tag HO3.out HZ3.out (by decide) hk)
      refine HRf.out.with5 hst ?_
      rw [List.length_append, ← HN.out]
      exact (Reads.of_own ho).mono fun k _ hk => own_ge ho k hk
  · refine Mxt.wpTL_reads ?_
    simp only [List.flatMap_cons, List.flatMap_nil, List.getElem?_cons_succ, List.getElem?_cons_zero, Option.toList_some, List.cons_append, List.nil_append]
    repeat (go_big_quiet_step (fail))
    refine wpQuiet_nil ?_
    refine Mxt.wpTL_op (by rfl) (fun K hK => ?_)
    go_simp
    refine hK _ _ (fun hlt => Mix.cl (Step.drew (Step.alloc Step.refl _))) ?_
    clear hK K
    refine Mxt.wpTL_reads ?_
    simp only [List.flatMap_cons, List.flatMap_nil, List.getElem?_cons_succ, List.getElem?_cons_zero, Option.toList_some, List.cons_append, List.nil_append]
    repeat (go_big_quiet_step (fail))
    refine wpQuiet_nil ?_
    refine Mxt.wpTL_op (by rfl) (fun K hK => ?_)
    go_simp
    refine hK _ _ (fun hlt => Mix.cl (Step.drew (Step.alloc (Step.alloc Step.refl _) _))) ?_
    clear hK K
    refine Mxt.wpTL_op (by rfl) (fun K hK => ?_)
    refine step_append_new (w0 := v4) (by rfl) _ _ (by rfl) E_gls (Step.drew (Step.alloc (Step.alloc Step.refl _) _)) (by rfl) (hfC) (by rfl) (hrC) hone1 hm1 (by omega) ?_
    intro D1 c1 W1 hown1 hS1 hgrow1 hat1
    refine hK _ _ (fun hlt => Mix.cl hS1) ?_
    clear hK K
    simp only [Act.put, List.setIfInBounds_toArray, List.set_cons_succ, List.set_cons_zero, Nat.zero_add]
    simp only [Nat.zero_add] at hown1
    have hx1 := hxC.step (Step.grown (F := fun k => blkOf (some (⟨v4.heap.size + 1, 0, none⟩ : Addr)) = some k) Step.refl hgrow1 (fun k hk => .inl hk)) (fun k hk e => by simp [blkOf] at e; omega)
    refine Mxt.wpTL_op (by rfl) (fun K hK => ?_)
    refine step_append_new (w0 := v4) (by rfl) _ _ (by rfl) E_gls (hS1) (by rfl) (hown1) (by rfl) (hx1) hone2 hm2 (by omega) ?_
    intro D2 c2 W2 hown2 hS2 hgrow2 hat2
    refine hK _ _ (fun hlt => Mix.cl hS2) ?_
    clear hK K
    simp only [Act.put, List.setIfInBounds_toArray, List.set_cons_succ, List.set_cons_zero, Nat.zero_add]
    refine Mxt.wpTL_reads ?_
    simp only [List.flatMap_cons, List.flatMap_nil, List.getElem?_cons_succ, List.getElem?_cons_zero, Option.toList_some, List.cons_append, List.nil_append]
    repeat (go_big_quiet_step (fail))
    refine wpQuiet_nil ?_
    have hB2 := HB.out.step hS2 id
    have z0 := hB2.frozen 5
    have c0 := hB2.cell 5
    rw [HMA.out] at c0
    simp [mdC] at c0
    refine Mxt.wpTL_op (by rfl) (fun K hK => ?_)
    go_simp
    refine hK _ _ (fun hlt => absurd hlt (by decide)) ?_
    clear hK K z0 c0
    refine Mxt.wpTL_leaf ?_
    as_aux_lemma =>
    obtain ⟨W3, hW3⟩ : ∃ W3, W3 = W2.setCell ⟨w.heap.size, 5, none⟩ (.slice D2 (N + 1) c2) := ⟨_, rfl⟩
    obtain ⟨MB, hMB⟩ : ∃ MB, MB = mdC { a with A5 := D2, c5 := c2 } { s with gs := s.gs ++ [(⟨t, m, 65, n⟩ : Gl)] } := ⟨_, rfl⟩
    have HMB := Lib.hid hMB
    have H17b : Hid (MB.size = 17) := by rw [Hid, hMB]; rfl
    have H1b : Hid (MB.all (·.oneCell') = true) := by rw [Hid, hMB]; exact mdC_one _ _
    have HB3 : Hid (Blk W3 (w.heap.size) 41 MB) := by
      have := hB2.set_ 5 (.slice D2 (N + 1) c2)
      rw [← hW3, HMA.out] at this
      simp [mdC] at this
      rw [hMB]
      simp [mdC]
      rw [← HN.out]
      exact this
    have HZ3 : Hid (Blk W3 (w.heap.size + 1 + 1) 41 #[.slice none 0 0, .slice none 0 0, .slice none 0 0, .slice none 0 0, .slice none 0 0, .slice none 0 0, .slice none 0 0, .int .i64 0, .slice none 0 0, .slice none 0 0, .slice none 0 0, .bool false, .int .u32 0, .int .u32 0, .int .u32 0, .int .u32 0, .slice none 0 0]) := by rw [hW3]; exact (HZ.out.step hS2 id).far (by show (w.heap.size + 1 + 1 : Nat) ≠ w.heap.size; omega) _
    have HO3 : Hid (W3.ownsRow w.heap.size 73 6 (.slice D2 (N + 1) c2) (N + 1) (gls (s.gs ++ [(⟨t, m, 65, n⟩ : Gl)]))) := by
      rw [hW3, gls_last]
      exact own_set (own_base hown2 (fun k hk => by have h1 := own_ge hown2 k hk; have h2 := HS.out.size; omega)) (otag hown2 hB2 (by decide) |> fun h e => h (by rwa [ownBlock_slice] at e)) _
    have HS3 : Hid (Step (fun _ => False) w W3) := by rw [hW3]; exact (HS.out.trans hS2).setCell (.inr (by simp)) _
    have c0 := HB3.out.cell 5
    rw [hMB] at c0
    simp [mdC] at c0
    rw [← hW3]
    clear hW3 hB2 hown1 hown2 hS1 hS2 hgrow1 hgrow2 hat1 hat2 hMB
    rw [← HN.out] at c0
    have HRt : Hid (Rf W3 (fun k => S k ∨ w.heap.size ≤ k) { a with A5 := D2, c5 := c2 } { s with gs := s.gs ++ [(⟨t, m, 65, n⟩ : Gl)] }) := by
      refine HRf.out.with5 HS3.out ?_
      rw [List.length_append, ← HN.out]
      exact (Reads.of_own HO3.out).mono fun k _ hk => own_ge HO3.out k hk
    have hWR : w.heap.size ≠ w.heap.size + 1 + 1 := by omega
    have hCn := count_ok W3.drew { a with A5 := D2, c5 := c2 } { s with gs := s.gs ++ [(⟨t, m, 65, n⟩ : Gl)] } _ (HRt.out.step Step.refl.drew (fun _ _ => id)) hl2 3
    rw [show mdC { a with A5 := D2, c5 := c2 } { s with gs := s.gs ++ [(⟨t, m, 65, n⟩ : Gl)] } = MB from HMB.out.symm] at hCn
    have HCn := Lib.hid hCn
    clear hCn
    go_wp2_with fail
    have d0 := cls_cell (F := fun k => k = w.heap.size + 1 + 1) c0 hWR
    clear c0
    refine Mix.wp_region_mix [2, 9] [2, 9] (Step (fun k => k = w.heap.size + 1 + 1) W3) (by kernel_rfl) (by kernel_rfl) (Step.refl.drew) (fun hcls => ?_)
    refine Mix.wpL_reads 2 (by rfl) ?_
    simp only [List.take_succ_cons, List.drop_succ_cons, List.take_zero, List.drop_zero]
    repeat (first | (refine BigFrame.wpQuiet_want (by rfl) (fun K hK => quiet_ld_mod _ rfl (w.heap.size) rfl MB (fun w1 ⟨i, e⟩ => by rw [e]; exact HB3.out.step i.prop hWR) H17b.out (hK _ ?_)); clear hK K; simp only [Act.put, List.setIfInBounds_toArray, List.set_cons_succ, List.set_cons_zero]) | (go_big_quiet_step (fail)))
    refine wpQuiet_nil ?_
    refine Mix.wpL_op (by rfl) (fun K hK => ?_)
    go_simp
    refine HCn.out.mono ?_
    rintro e w4 ⟨⟨z4, rfl⟩, hs4⟩
    have HS34 : Hid (Step (fun _ => False) W3 w4) := Step.refl.drew.trans hs4
    have HZ4 := Lib.hid (HZ3.out.step HS34.out id)
    have HF4 : Hid (Step (fun k => k = w.heap.size + 1 + 1) W3 w4) := HS34.out.mono (fun _ _ h => h.elim)
    clear hs4
    refine hK _ _ (fun hlt => Mix.cl (HF4.out)) ?_
    clear hK K
    refine Mix.wpL_reads 6 (by rfl) ?_
    simp only [List.take_succ_cons, List.drop_succ_cons, List.take_zero, List.drop_zero]
    repeat (go_big_quiet_step (fail))
    refine wpQuiet_nil ?_
    refine Mix.wpL_op (by rfl) (fun K hK => ?_)
    refine wp_st_mod _ _ rfl rfl (w.heap.size + 1 + 1) rfl MB rfl HZ4.out rfl H17b.out H1b.out ?_
    refine hK _ _ (fun hlt => Mix.cl (Step.setRow (F := fun k => k = w.heap.size + 1 + 1) (g := w.heap.size + 1 + 1) HF4.out (.inl rfl) _)) ?_
    clear hK K
    refine Mix.wpL_reads 1 (by rfl) ?_
    simp only [List.take_succ_cons, List.drop_succ_cons, List.take_zero, List.drop_zero]
    repeat (go_big_quiet_step (fail))
    refine wpQuiet_nil ?_
    refine Mix.wpL_end ?_
    clear d0
    go_wp2_with fail
    have hst := (HS3.out.trans HS34.out).setRow (g := w.heap.size + 1 + 1) (.inr (by omega)) MB
    refine bodyPost_ret (v := .tuple #[.agg MB, .int .u32 _]) (res_mod2 Try.results46 (w.heap.size + 1 + 1) rfl rfl (Blk.row HZ4.out MB) H17b.out) rfl ?_
    refine ⟨_, rfl, ?_⟩
    rw [HRR.out]
    refine ⟨_, _, by rw [HMB.out], ?_, hst⟩
    have ho := own_step HO3.out (Step.setRow (F := fun k => k = w.heap.size + 1 + 1) (HS34.out.mono (fun _ _ h => h.elim)) (.inl rfl) MB) (fun k hk e => by subst e; exact own_tag HO3.out HZ3.out (by decide) hk)
    refine HRf.out.with5 hst ?_
    rw [List.length_append, ← HN.out]
    exact (Reads.of_own ho).mono fun k _ hk => own_ge ho k hk
end
end Go.Proofs.Ytflgpjdpofmbkaa
