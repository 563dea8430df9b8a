/-
  creelref47: add, Take, Want.
-/
import Derived.Test.YtflgpjdpofmbkaaCsH
set_option linter.unusedVariables false
set_option linter.unusedSimpArgs false
namespace Go.Proofs.Ytflgpjdpofmbkaa
open Go.RowKit
section
variable (w : World) (a : Ad) (s : Mo) (S : Nat → Prop)

set_option maxRecDepth 100000 in
set_option maxHeartbeats 3200000 in
theorem add_late (hR : Rf w S a s) (x : Im) :
    Calls Try.prog 50 #[.agg (mdC a s), .agg #[Value.string (str x.s0), .string (str x.s1), .int .u8 (x.k : Int), .int .u32 (x.t : Int), .int .u32 0, .int .u32 0, .bool false, .int .u8 (x.g : Int), .bool x.gm], .bool true] w fun e w' => e = .returned (.tuple #[.agg (mdC a s), .int .u32 0, .bool false]) ∧ Step (fun _ => False) w w' := by
  obtain ⟨v1, hv1⟩ : ∃ v1, v1 = w.alloc (.cells (mdC a s) 41) := ⟨_, rfl⟩
  obtain ⟨v2, hv2⟩ : ∃ v2, v2 = v1.alloc (.cells #[Value.string (str x.s0), .string (str x.s1), .int .u8 (x.k : Int), .int .u32 (x.t : Int), .int .u32 0, .int .u32 0, .bool false, .int .u8 (x.g : Int), .bool x.gm] 67) := ⟨_, rfl⟩
  obtain ⟨v3, hv3⟩ : ∃ v3, v3 = v2.alloc (.cells #[.slice none 0 0, .slice none 0 0, .slice none 0 0, .slice none 0 0, .slice none 0 0, .slice none 0 0, .slice none 0 0, .int .i64 0, .slice none 0 0, .slice none 0 0, .slice none 0 0, .bool false, .int .u32 0, .int .u32 0, .int .u32 0, .int .u32 0, .slice none 0 0] 41) := ⟨_, rfl⟩
  have e0 : w.heap.size = w.heap.size := rfl
  have e1 : v1.heap.size = w.heap.size + 1 := by rw [hv1]; simp [e0]
  have s1 : Step (fun _ => False) w v1 := by rw [hv1]; exact Step.alloc Step.refl _
  have e2 : v2.heap.size = w.heap.size + 1 + 1 := by rw [hv2]; simp [e1]
  have s2 : Step (fun _ => False) v1 v2 := by rw [hv2]; exact Step.alloc Step.refl _
  have e3 : v3.heap.size = w.heap.size + 1 + 1 + 1 := by rw [hv3]; simp [e2]
  have s3 : Step (fun _ => False) v2 v3 := by rw [hv3]; exact Step.alloc Step.refl _
  have HB : Hid (Blk v3 (w.heap.size) 41 (mdC a s)) := by
    have h1 : Blk v1 w.heap.size 41 (mdC a s) := by rw [hv1]; exact Blk.new w _ _
    exact ((h1.step s2 id).step s3 id)
  have HX : Hid (Blk v3 (w.heap.size + 1) 67 #[Value.string (str x.s0), .string (str x.s1), .int .u8 (x.k : Int), .int .u32 (x.t : Int), .int .u32 0, .int .u32 0, .bool false, .int .u8 (x.g : Int), .bool x.gm]) := by
    have h1 : Blk v2 v1.heap.size 67 #[Value.string (str x.s0), .string (str x.s1), .int .u8 (x.k : Int), .int .u32 (x.t : Int), .int .u32 0, .int .u32 0, .bool false, .int .u8 (x.g : Int), .bool x.gm] := by rw [hv2]; exact Blk.new v1 _ _
    rw [e1] at h1
    exact (h1.step s3 id)
  have HZ : Hid (Blk v3 (w.heap.size + 1 + 1) 41 #[.slice none 0 0, .slice none 0 0, .slice none 0 0, .slice none 0 0, .slice none 0 0, .slice none 0 0, .slice none 0 0, .int .i64 0, .slice none 0 0, .slice none 0 0, .slice none 0 0, .bool false, .int .u32 0, .int .u32 0, .int .u32 0, .int .u32 0, .slice none 0 0]) := by
    have h1 : Blk v3 v2.heap.size 41 #[.slice none 0 0, .slice none 0 0, .slice none 0 0, .slice none 0 0, .slice none 0 0, .slice none 0 0, .slice none 0 0, .int .i64 0, .slice none 0 0, .slice none 0 0, .slice none 0 0, .bool false, .int .u32 0, .int .u32 0, .int .u32 0, .int .u32 0, .slice none 0 0] := by rw [hv3]; exact Blk.new v2 _ _
    rw [e2] at h1
    exact h1
  have HS : Hid (Step (fun _ => False) w v3) := s1 |>.trans s2 |>.trans s3
  have HE1 := Lib.hid hv1
  have HE2 := Lib.hid hv2
  have HE3 := Lib.hid hv3
  clear e1 s1 hv1 e2 s2 hv2 e3 s3 hv3 e0
  obtain ⟨MA, hMA⟩ : ∃ MA, MA = mdC a s := ⟨_, rfl⟩
  rw [← hMA] at HE1 HB ⊢
  have HMA := Lib.hid hMA
  have H17 : Hid (MA.size = 17) := by rw [Hid, hMA]; rfl
  have H1 : Hid (MA.all (·.oneCell') = true) := by rw [Hid, hMA]; exact mdC_one a s
  clear hMA
  go_enter Try.func50, Try.ntmps50
  go_wp2_with (first | (refine ld_mod rfl _ rfl _ rfl MA (by first | exact HB.out | (rw [← HE1.out, ← HE2.out, ← HE3.out]; exact HB.out)) H17.out ?_) | (refine st_mod rfl _ _ rfl rfl (w.heap.size + 1 + 1) rfl MA rfl (by first | exact HZ.out | (rw [← HE1.out, ← HE2.out, ← HE3.out]; exact HZ.out)) rfl H17.out H1.out ?_))
  rw [← HE1.out]
  rw [← HE2.out]
  rw [← HE3.out]
  refine bodyPost_ret (v := .tuple #[.agg MA, .int .u32 0, .bool false]) (res_mod3 Try.results50 (w.heap.size + 1 + 1) rfl rfl rfl (Blk.row HZ.out MA) H17.out) rfl ?_
  exact ⟨rfl, HS.out.setRow (.inr (by omega)) _⟩

set_option maxRecDepth 100000 in
set_option maxHeartbeats 12800000 in
theorem add_ok (hR : Rf w S a s) (hl : s.is.length ≤ 1000) (x : Im) :
    Calls Try.prog 50 #[.agg (mdC a s), .agg #[Value.string (str x.s0), .string (str x.s1), .int .u8 (x.k : Int), .int .u32 (x.t : Int), .int .u32 0, .int .u32 0, .bool false, .int .u8 (x.g : Int), .bool x.gm], .bool false] w fun e w' => ∃ D c' z, e = .returned (.tuple #[.agg (mdC { a with A1 := D, c1 := c' } { s with is := s.is ++ [x] }), .int .u32 z, .bool true]) ∧ Rf w' (fun k => S k ∨ w.heap.size ≤ k) { a with A1 := D, c1 := c' } { s with is := s.is ++ [x] } ∧ Step (fun _ => False) w w' := by
  have HRf := Lib.hid hR
  obtain ⟨N, hN⟩ : ∃ N, N = s.is.length := ⟨_, rfl⟩
  have HN := Lib.hid hN
  rw [← hN] at hl
  obtain ⟨v1, hv1⟩ : ∃ v1, v1 = w.alloc (.cells (mdC a s) 41) := ⟨_, rfl⟩
  obtain ⟨v2, hv2⟩ : ∃ v2, v2 = v1.alloc (.cells #[Value.string (str x.s0), .string (str x.s1), .int .u8 (x.k : Int), .int .u32 (x.t : Int), .int .u32 0, .int .u32 0, .bool false, .int .u8 (x.g : Int), .bool x.gm] 67) := ⟨_, rfl⟩
  obtain ⟨v3, hv3⟩ : ∃ v3, v3 = v2.alloc (.cells #[.slice none 0 0, .slice none 0 0, .slice none 0 0, .slice none 0 0, .slice none 0 0, .slice none 0 0, .slice none 0 0, .int .i64 0, .slice none 0 0, .slice none 0 0, .slice none 0 0, .bool false, .int .u32 0, .int .u32 0, .int .u32 0, .int .u32 0, .slice none 0 0] 41) := ⟨_, rfl⟩
  have e0 : w.heap.size = w.heap.size := rfl
  have e1 : v1.heap.size = w.heap.size + 1 := by rw [hv1]; simp [e0]
  have s1 : Step (fun _ => False) w v1 := by rw [hv1]; exact Step.alloc Step.refl _
  have e2 : v2.heap.size = w.heap.size + 1 + 1 := by rw [hv2]; simp [e1]
  have s2 : Step (fun _ => False) v1 v2 := by rw [hv2]; exact Step.alloc Step.refl _
  have e3 : v3.heap.size = w.heap.size + 1 + 1 + 1 := by rw [hv3]; simp [e2]
  have s3 : Step (fun _ => False) v2 v3 := by rw [hv3]; exact Step.alloc Step.refl _
  have HB : Hid (Blk v3 (w.heap.size) 41 (mdC a s)) := by
    have h1 : Blk v1 w.heap.size 41 (mdC a s) := by rw [hv1]; exact Blk.new w _ _
    exact ((h1.step s2 id).step s3 id)
  have HX : Hid (Blk v3 (w.heap.size + 1) 67 #[Value.string (str x.s0), .string (str x.s1), .int .u8 (x.k : Int), .int .u32 (x.t : Int), .int .u32 0, .int .u32 0, .bool false, .int .u8 (x.g : Int), .bool x.gm]) := by
    have h1 : Blk v2 v1.heap.size 67 #[Value.string (str x.s0), .string (str x.s1), .int .u8 (x.k : Int), .int .u32 (x.t : Int), .int .u32 0, .int .u32 0, .bool false, .int .u8 (x.g : Int), .bool x.gm] := by rw [hv2]; exact Blk.new v1 _ _
    rw [e1] at h1
    exact (h1.step s3 id)
  have HZ : Hid (Blk v3 (w.heap.size + 1 + 1) 41 #[.slice none 0 0, .slice none 0 0, .slice none 0 0, .slice none 0 0, .slice none 0 0, .slice none 0 0, .slice none 0 0, .int .i64 0, .slice none 0 0, .slice none 0 0, .slice none 0 0, .bool false, .int .u32 0, .int .u32 0, .int .u32 0, .int .u32 0, .slice none 0 0]) := by
    have h1 : Blk v3 v2.heap.size 41 #[.slice none 0 0, .slice none 0 0, .slice none 0 0, .slice none 0 0, .slice none 0 0, .slice none 0 0, .slice none 0 0, .int .i64 0, .slice none 0 0, .slice none 0 0, .slice none 0 0, .bool false, .int .u32 0, .int .u32 0, .int .u32 0, .int .u32 0, .slice none 0 0] := by rw [hv3]; exact Blk.new v2 _ _
    rw [e2] at h1
    exact h1
  have HS : Hid (Step (fun _ => False) w v3) := s1 |>.trans s2 |>.trans s3
  have HE1 := Lib.hid hv1
  have HE2 := Lib.hid hv2
  have HE3 := Lib.hid hv3
  clear e1 s1 hv1 e2 s2 hv2 e3 s3 hv3 e0
  have HCn : Hid (∀ wz, Step (fun _ => False) w wz → _) := fun wz hz => count_ok wz a s S (hR.step hz (fun _ _ => id)) (by rw [← hN]; exact hl) x.k
  obtain ⟨MA, hMA⟩ : ∃ MA, MA = mdC a s := ⟨_, rfl⟩
  rw [← hMA] at HE1 HB ⊢
  have HMA := Lib.hid hMA
  have H17 : Hid (MA.size = 17) := by rw [Hid, hMA]; rfl
  have H1 : Hid (MA.all (·.oneCell') = true) := by rw [Hid, hMA]; exact mdC_one a s
  clear hMA
  have HCn : Hid (∀ wz, Step (fun _ => False) w wz → Calls Try.prog 52 #[.agg MA, .int .u8 (x.k : Int)] wz fun e w' => (∃ z, e = .returned (.int .i64 z)) ∧ Step (fun _ => False) wz w') := by rw [HMA.out]; exact HCn
  have HIm : Hid (#[Value.string (str x.s0), .string (str x.s1), .int .u8 (x.k : Int), .int .u32 (x.t : Int), .int .u32 0, .int .u32 0, .bool false, .int .u8 (x.g : Int), .bool x.gm].toList = x.cells) := rfl
  obtain ⟨RR, hRR⟩ : ∃ RR : Value → World → Prop, RR = fun e w' => ∃ D c' z, e = .tuple #[.agg (mdC { a with A1 := D, c1 := c' } { s with is := s.is ++ [x] }), .int .u32 z, .bool true] ∧ Rf w' (fun k => S k ∨ w.heap.size ≤ k) { a with A1 := D, c1 := c' } { s with is := s.is ++ [x] } ∧ Step (fun _ => False) w w' := ⟨_, rfl⟩
  have HRR := Lib.hid hRR
  refine (show Calls Try.prog 50 #[.agg MA, .agg #[Value.string (str x.s0), .string (str x.s1), .int .u8 (x.k : Int), .int .u32 (x.t : Int), .int .u32 0, .int .u32 0, .bool false, .int .u8 (x.g : Int), .bool x.gm], .bool false] w (fun e w' => ∃ v, e = .returned v ∧ RR v w') from ?_ ).mono ?h2
  case h2 =>
    rintro e w' ⟨v, rfl, hv⟩
    rw [HRR.out] at hv
    obtain ⟨D, c', z, rfl, hv⟩ := hv
    exact ⟨D, c', z, rfl, hv⟩
  clear hRR
  have hxl : ∀ j, v3.cell? ⟨w.heap.size + 1, j, none⟩ = #[Value.string (str x.s0), .string (str x.s1), .int .u8 (x.k : Int), .int .u32 (x.t : Int), .int .u32 0, .int .u32 0, .bool false, .int .u8 (x.g : Int), .bool x.gm][j]? := fun j => HX.out.cell j
  have x0 := hxl 0
  have x1 := hxl 1
  have x2 := hxl 2
  have x3 := hxl 3
  have x4 := hxl 4
  have x5 := hxl 5
  have x6 := hxl 6
  have x7 := hxl 7
  have x8 := hxl 8
  simp at x0 x1 x2 x3 x4 x5 x6 x7 x8
  have HXL := Lib.hid hxl
  rw [HE3.out, HE2.out, HE1.out] at x2
  clear hR hN hxl
  go_enter Try.func50, Try.ntmps50
  go_wp2_with (first | (refine ld_mod rfl _ rfl _ rfl MA (by first | exact HB.out | (rw [← HE1.out, ← HE2.out, ← HE3.out]; exact HB.out)) H17.out ?_))
  rw [← HE1.out]
  rw [← HE2.out]
  rw [← HE3.out]
  clear x2
  refine (HCn.out _ HS.out).mono ?_
  rintro e w4 ⟨⟨z, rfl⟩, hs4⟩
  have HB4 := Lib.hid (HB.out.step hs4 id)
  have HZ4 := Lib.hid (HZ.out.step hs4 id)
  have HX4 := Lib.hid (HX.out.step hs4 id)
  have HS4 := Lib.hid (HS.out.trans hs4)
  have c1 := HB4.out.cell 1
  rw [HMA.out] at c1
  simp [mdC] at c1
  rw [← HN.out] at c1
  have y0 := HX4.out.cell 0
  have y1 := HX4.out.cell 1
  have y2 := HX4.out.cell 2
  have y3 := HX4.out.cell 3
  have y4 := HX4.out.cell 4
  have y5 := HX4.out.cell 5
  have y6 := HX4.out.cell 6
  have y7 := HX4.out.cell 7
  have y8 := HX4.out.cell 8
  simp at y0 y1 y2 y3 y4 y5 y6 y7 y8
  have d1 := cls_cell (F := fun _ => False) c1 id
  have g0 := cls_cell (F := fun _ => False) y0 id
  have g1 := cls_cell (F := fun _ => False) y1 id
  have g2 := cls_cell (F := fun _ => False) y2 id
  have g3 := cls_cell (F := fun _ => False) y3 id
  have g4 := cls_cell (F := fun _ => False) y4 id
  have g5 := cls_cell (F := fun _ => False) y5 id
  have g6 := cls_cell (F := fun _ => False) y6 id
  have g7 := cls_cell (F := fun _ => False) y7 id
  have g8 := cls_cell (F := fun _ => False) y8 id
  clear c1 hs4 y0 x0 y1 x1 y2 y3 x3 y4 x4 y5 x5 y6 x6 y7 x7 y8 x8
  have hsrc := HRf.out.r1.step HS4.out (fun _ _ => id)
  rw [← HN.out] at hsrc
  have hone1 := ims_one s.is
  have hone2 : ∀ u ∈ #[Value.string (str x.s0), .string (str x.s1), .int .u8 (x.k : Int), .int .u32 (x.t : Int), .int .u32 0, .int .u32 0, .bool false, .int .u8 (x.g : Int), .bool x.gm].toList, u.oneCell' = true := by simp [Value.oneCell']
  have hm1 : 0 + N ≤ maxLen := by unfold maxLen; omega
  have hm2 : N + 1 ≤ maxLen := by unfold maxLen; omega
  go_wp2_with fail
  have hz1 : (w4.alloc (.cells #[Value.string (str x.s0), .string (str x.s1), .int .u8 (x.k : Int), .int .u32 (x.t : Int), .int .u32 0, .int .u32 0, .bool false, .int .u8 (x.g : Int), .bool x.gm] 67)).heap.size = w4.heap.size + 1 := by simp
  have hz0 : (w4.alloc (.cells #[] 67)).heap.size = w4.heap.size + 1 := by simp
  have hfA : (w4.alloc (.cells #[] 67)).drew.ownsRow w4.heap.size 67 9 (.slice (some ⟨w4.heap.size, 0, none⟩) 0 0) 0 [] := own_drew (own_fresh 9 (Nat.le_refl _))
  have hrA := hsrc.step (F := fun _ => False) (Step.drew (Step.alloc Step.refl (.cells #[] 67))) (fun _ _ => id)
  have hfB : ((w4.alloc (.cells #[] 67)).alloc (.cells #[Value.string (str x.s0), .string (str x.s1), .int .u8 (x.k : Int), .int .u32 (x.t : Int), .int .u32 0, .int .u32 0, .bool false, .int .u8 (x.g : Int), .bool x.gm] 67)).drew.ownsRow w4.heap.size 67 9 (.slice (some ⟨w4.heap.size, 0, none⟩) 0 0) 0 [] := own_drew ((own_fresh 9 (Nat.le_refl _)).alloc _)
  have hrB := hsrc.step (F := fun _ => False) (Step.drew (Step.alloc (Step.alloc Step.refl (.cells #[] 67)) (.cells #[Value.string (str x.s0), .string (str x.s1), .int .u8 (x.k : Int), .int .u32 (x.t : Int), .int .u32 0, .int .u32 0, .bool false, .int .u8 (x.g : Int), .bool x.gm] 67))) (fun _ _ => id)
  have hxB := (reads_new (w4.alloc (.cells #[] 67)) #[Value.string (str x.s0), .string (str x.s1), .int .u8 (x.k : Int), .int .u32 (x.t : Int), .int .u32 0, .int .u32 0, .bool false, .int .u8 (x.g : Int), .bool x.gm] 67 9 1 rfl).drew
  have hfC : ((w4.alloc (.cells #[Value.string (str x.s0), .string (str x.s1), .int .u8 (x.k : Int), .int .u32 (x.t : Int), .int .u32 0, .int .u32 0, .bool false, .int .u8 (x.g : Int), .bool x.gm] 67)).alloc (.cells #[] 67)).drew.ownsRow w4.heap.size 67 9 (.slice (some ⟨w4.heap.size + 1, 0, none⟩) 0 0) 0 [] := by
    have := own_drew (own_fresh (w := w4.alloc (.cells #[Value.string (str x.s0), .string (str x.s1), .int .u8 (x.k : Int), .int .u32 (x.t : Int), .int .u32 0, .int .u32 0, .bool false, .int .u8 (x.g : Int), .bool x.gm] 67)) (e := 67) (base := w4.heap.size) 9 (by omega))
    rwa [hz1] at this
  have hrC := hsrc.step (F := fun _ => False) (Step.drew (Step.alloc (Step.alloc Step.refl (.cells #[Value.string (str x.s0), .string (str x.s1), .int .u8 (x.k : Int), .int .u32 (x.t : Int), .int .u32 0, .int .u32 0, .bool false, .int .u8 (x.g : Int), .bool x.gm] 67)) (.cells #[] 67))) (fun _ _ => id)
  have hxC := ((reads_new w4 #[Value.string (str x.s0), .string (str x.s1), .int .u8 (x.k : Int), .int .u32 (x.t : Int), .int .u32 0, .int .u32 0, .bool false, .int .u8 (x.g : Int), .bool x.gm] 67 9 1 rfl).step (F := fun _ => False) (Step.alloc Step.refl (.cells #[] 67)) (fun _ _ => id)).drew
  rw [hz0] at hxB
  refine Mxt.wp_region_tree [0, 3, 5, 6, 8] [0, 3, 5, 6] (.fork (.op 0 (.reads [1, 2] (.fork (.op 3 (.reads [4] (.op 5 (.op 6 (.reads [7] (.op 8 .leaf)))))) (.reads [4] (.op 5 (.op 3 (.op 6 (.reads [7] (.op 8 .leaf))))))))) (.reads [4] (.op 5 (.reads [1, 2] (.op 0 (.op 3 (.op 6 (.reads [7] (.op 8 .leaf))))))))) (Step (fun _ => False) w4) (by kernel_rfl) (by kernel_rfl) Step.refl.drew (fun hcls => ?_)
  refine Mxt.wpTL_fork ?_ ?_
  · refine Mxt.wpTL_op (by rfl) (fun K hK => ?_)
    go_simp
    refine hK _ _ (fun hlt => Mix.cl (Step.drew (Step.alloc Step.refl _))) ?_
    clear hK K
    refine Mxt.wpTL_reads ?_
    simp only [List.flatMap_cons, List.flatMap_nil, List.getElem?_cons_succ, List.getElem?_cons_zero, Option.toList_some, List.cons_append, List.nil_append]
    repeat (go_big_quiet_step (fail))
    refine wpQuiet_nil ?_
    refine Mxt.wpTL_fork ?_ ?_
    · refine Mxt.wpTL_op (by rfl) (fun K hK => ?_)
      refine step_append_new (w0 := w4) (by rfl) _ _ (by rfl) E_ims (Step.drew (Step.alloc Step.refl _)) (by rfl) (hfA) (by rfl) (hrA) hone1 hm1 (by omega) ?_
      intro D1 c1 W1 hown1 hS1 hgrow1 hat1
      refine hK _ _ (fun hlt => Mix.cl hS1) ?_
      clear hK K
      simp only [Act.put, List.setIfInBounds_toArray, List.set_cons_succ, List.set_cons_zero, Nat.zero_add]
      simp only [Nat.zero_add] at hown1
      refine Mxt.wpTL_reads ?_
      simp only [List.flatMap_cons, List.flatMap_nil, List.getElem?_cons_succ, List.getElem?_cons_zero, Option.toList_some, List.cons_append, List.nil_append]
      repeat (go_big_quiet_step (fail))
      refine wpQuiet_nil ?_
      refine Mxt.wpTL_op (by rfl) (fun K hK => ?_)
      go_simp
      refine hK _ _ (fun hlt => Mix.cl (Step.alloc hS1 _)) ?_
      clear hK K
      refine Mxt.wpTL_op (by rfl) (fun K hK => ?_)
      refine step_append_new (w0 := w4) (by rfl) _ _ (by rfl) E_ims (Step.alloc hS1 _) (by rfl) (hown1.alloc _) (by rfl) (reads_new W1 #[Value.string (str x.s0), .string (str x.s1), .int .u8 (x.k : Int), .int .u32 (x.t : Int), .int .u32 0, .int .u32 0, .bool false, .int .u8 (x.g : Int), .bool x.gm] 67 9 1 rfl) hone2 hm2 (by omega) ?_
      intro D2 c2 W2 hown2 hS2 hgrow2 hat2
      refine hK _ _ (fun hlt => Mix.cl hS2) ?_
      clear hK K
      simp only [Act.put, List.setIfInBounds_toArray, List.set_cons_succ, List.set_cons_zero, Nat.zero_add]
      refine Mxt.wpTL_reads ?_
      simp only [List.flatMap_cons, List.flatMap_nil, List.getElem?_cons_succ, List.getElem?_cons_zero, Option.toList_some, List.cons_append, List.nil_append]
      repeat (go_big_quiet_step (fail))
      refine wpQuiet_nil ?_
      have hB2 := HB4.out.step hS2 id
      have z0 := hB2.frozen 1
      have c0 := hB2.cell 1
      rw [HMA.out] at c0
      simp [mdC] at c0
      refine Mxt.wpTL_op (by rfl) (fun K hK => ?_)
      go_simp
      refine hK _ _ (fun hlt => absurd hlt (by decide)) ?_
      clear hK K z0 c0
      refine Mxt.wpTL_leaf ?_
      as_aux_lemma =>
      obtain ⟨W3, hW3⟩ : ∃ W3, W3 = W2.setCell ⟨w.heap.size, 1, none⟩ (.slice D2 (N + 1) c2) := ⟨_, rfl⟩
      obtain ⟨MB, hMB⟩ : ∃ MB, MB = mdC { a with A1 := D2, c1 := c2 } { s with is := s.is ++ [x] } := ⟨_, rfl⟩
      have HMB := Lib.hid hMB
      have H17b : Hid (MB.size = 17) := by rw [Hid, hMB]; rfl
      have H1b : Hid (MB.all (·.oneCell') = true) := by rw [Hid, hMB]; exact mdC_one _ _
      have HB3 : Hid (Blk W3 (w.heap.size) 41 MB) := by
        have := hB2.set_ 1 (.slice D2 (N + 1) c2)
        rw [← hW3, HMA.out] at this
        simp [mdC] at this
        rw [hMB]
        simp [mdC]
        rw [← HN.out]
        exact this
      have HZ3 : Hid (Blk W3 (w.heap.size + 1 + 1) 41 #[.slice none 0 0, .slice none 0 0, .slice none 0 0, .slice none 0 0, .slice none 0 0, .slice none 0 0, .slice none 0 0, .int .i64 0, .slice none 0 0, .slice none 0 0, .slice none 0 0, .bool false, .int .u32 0, .int .u32 0, .int .u32 0, .int .u32 0, .slice none 0 0]) := by rw [hW3]; exact (HZ4.out.step hS2 id).far (by show (w.heap.size + 1 + 1 : Nat) ≠ w.heap.size; omega) _
      have HO3 : Hid (W3.ownsRow w.heap.size 67 9 (.slice D2 (N + 1) c2) (N + 1) (ims (s.is ++ [x]))) := by
        rw [hW3, ims_last]
        exact own_set (own_base hown2 (fun k hk => by have h1 := own_ge hown2 k hk; have h2 := HS4.out.size; omega)) (otag hown2 hB2 (by decide) |> fun h e => h (by rwa [ownBlock_slice] at e)) _
      have HS3 : Hid (Step (fun _ => False) w W3) := by rw [hW3]; exact (HS4.out.trans hS2).setCell (.inr (by simp)) _
      have c0 := HB3.out.cell 1
      rw [hMB] at c0
      simp [mdC] at c0
      rw [← hW3]
      clear hW3 hB2 hown1 hown2 hS1 hS2 hgrow1 hgrow2 hat1 hat2 hMB
      clear c0
      go_wp2_with (first | (refine ld_mod rfl _ rfl _ rfl MB HB3.out H17b.out ?_) | (refine st_mod rfl _ _ rfl rfl (w.heap.size + 1 + 1) rfl MB rfl HZ3.out rfl H17b.out H1b.out ?_))
      refine bodyPost_ret (v := .tuple #[.agg MB, .int .u32 _, .bool true]) (res_mod3 Try.results50 (w.heap.size + 1 + 1) rfl rfl rfl (Blk.row HZ3.out MB) H17b.out) rfl ?_
      have hst := HS3.out.setRow (g := w.heap.size + 1 + 1) (.inr (by omega)) MB
      refine ⟨_, rfl, ?_⟩
      rw [HRR.out]
      refine ⟨D2, c2, _, by rw [HMB.out], ?_, hst⟩
      have ho := own_step HO3.out (Step.setRow (F := fun k => k = w.heap.size + 1 + 1) Step.refl (.inl rfl) MB) (fun k hk e => by subst e; exact own_tag HO3.out HZ3.out (by decide) hk)
      refine HRf.out.with1 hst ?_
      rw [List.length_append, ← HN.out]
      exact (Reads.of_own ho).mono fun k _ hk => own_ge ho k hk
    · refine Mxt.wpTL_reads ?_
      simp only [List.flatMap_cons, List.flatMap_nil, List.getElem?_cons_succ, List.getElem?_cons_zero, Option.toList_some, List.cons_append, List.nil_append]
      repeat (go_big_quiet_step (fail))
      refine wpQuiet_nil ?_
      refine Mxt.wpTL_op (by rfl) (fun K hK => ?_)
      go_simp
      refine hK _ _ (fun hlt => Mix.cl (Step.drew (Step.alloc (Step.alloc Step.refl _) _))) ?_
      clear hK K
      refine Mxt.wpTL_op (by rfl) (fun K hK => ?_)
      refine step_append_new (w0 := w4) (by rfl) _ _ (by rfl) E_ims (Step.drew (Step.alloc (Step.alloc Step.refl _) _)) (by rfl) (hfB) (by rfl) (hrB) hone1 hm1 (by omega) ?_
      intro D1 c1 W1 hown1 hS1 hgrow1 hat1
      refine hK _ _ (fun hlt => Mix.cl hS1) ?_
      clear hK K
      simp only [Act.put, List.setIfInBounds_toArray, List.set_cons_succ, List.set_cons_zero, Nat.zero_add]
      simp only [Nat.zero_add] at hown1
      have hx1 := hxB.step (Step.grown (F := fun k => blkOf (some (⟨w4.heap.size, 0, none⟩ : Addr)) = some k) Step.refl hgrow1 (fun k hk => .inl hk)) (fun k hk e => by simp [blkOf] at e; omega)
      refine Mxt.wpTL_op (by rfl) (fun K hK => ?_)
      refine step_append_new (w0 := w4) (by rfl) _ _ (by rfl) E_ims (hS1) (by rfl) (hown1) (by rfl) (hx1) hone2 hm2 (by omega) ?_
      intro D2 c2 W2 hown2 hS2 hgrow2 hat2
      refine hK _ _ (fun hlt => Mix.cl hS2) ?_
      clear hK K
      simp only [Act.put, List.setIfInBounds_toArray, List.set_cons_succ, List.set_cons_zero, Nat.zero_add]
      refine Mxt.wpTL_reads ?_
      simp only [List.flatMap_cons, List.flatMap_nil, List.getElem?_cons_succ, List.getElem?_cons_zero, Option.toList_some, List.cons_append, List.nil_append]
      repeat (go_big_quiet_step (fail))
      refine wpQuiet_nil ?_
      have hB2 := HB4.out.step hS2 id
      have z0 := hB2.frozen 1
      have c0 := hB2.cell 1
      rw [HMA.out] at c0
      simp [mdC] at c0
      refine Mxt.wpTL_op (by rfl) (fun K hK => ?_)
      go_simp
      refine hK _ _ (fun hlt => absurd hlt (by decide)) ?_
      clear hK K z0 c0
      refine Mxt.wpTL_leaf ?_
      as_aux_lemma =>
      obtain ⟨W3, hW3⟩ : ∃ W3, W3 = W2.setCell ⟨w.heap.size, 1, none⟩ (.slice D2 (N + 1) c2) := ⟨_, rfl⟩
      obtain ⟨MB, hMB⟩ : ∃ MB, MB = mdC { a with A1 := D2, c1 := c2 } { s with is := s.is ++ [x] } := ⟨_, rfl⟩
      have HMB := Lib.hid hMB
      have H17b : Hid (MB.size = 17) := by rw [Hid, hMB]; rfl
      have H1b : Hid (MB.all (·.oneCell') = true) := by rw [Hid, hMB]; exact mdC_one _ _
      have HB3 : Hid (Blk W3 (w.heap.size) 41 MB) := by
        have := hB2.set_ 1 (.slice D2 (N + 1) c2)
        rw [← hW3, HMA.out] at this
        simp [mdC] at this
        rw [hMB]
        simp [mdC]
        rw [← HN.out]
        exact this
      have HZ3 : Hid (Blk W3 (w.heap.size + 1 + 1) 41 #[.slice none 0 0, .slice none 0 0, .slice none 0 0, .slice none 0 0, .slice none 0 0, .slice none 0 0, .slice none 0 0, .int .i64 0, .slice none 0 0, .slice none 0 0, .slice none 0 0, .bool false, .int .u32 0, .int .u32 0, .int .u32 0, .int .u32 0, .slice none 0 0]) := by rw [hW3]; exact (HZ4.out.step hS2 id).far (by show (w.heap.size + 1 + 1 : Nat) ≠ w.heap.size; omega) _
      have HO3 : Hid (W3.ownsRow w.heap.size 67 9 (.slice D2 (N + 1) c2) (N + 1) (ims (s.is ++ [x]))) := by
        rw [hW3, ims_last]
        exact own_set (own_base hown2 (fun k hk => by have h1 := own_ge hown2 k hk; have h2 := HS4.out.size; omega)) (otag hown2 hB2 (by decide) |> fun h e => h (by rwa [ownBlock_slice] at e)) _
      have HS3 : Hid (Step (fun _ => False) w W3) := by rw [hW3]; exact (HS4.out.trans hS2).setCell (.inr (by simp)) _
      have c0 := HB3.out.cell 1
      rw [hMB] at c0
      simp [mdC] at c0
      rw [← hW3]
      clear hW3 hB2 hown1 hown2 hS1 hS2 hgrow1 hgrow2 hat1 hat2 hMB
      clear c0
      go_wp2_with (first | (refine ld_mod rfl _ rfl _ rfl MB HB3.out H17b.out ?_) | (refine st_mod rfl _ _ rfl rfl (w.heap.size + 1 + 1) rfl MB rfl HZ3.out rfl H17b.out H1b.out ?_))
      refine bodyPost_ret (v := .tuple #[.agg MB, .int .u32 _, .bool true]) (res_mod3 Try.results50 (w.heap.size + 1 + 1) rfl rfl rfl (Blk.row HZ3.out MB) H17b.out) rfl ?_
      have hst := HS3.out.setRow (g := w.heap.size + 1 + 1) (.inr (by omega)) MB
      refine ⟨_, rfl, ?_⟩
      rw [HRR.out]
      refine ⟨D2, c2, _, by rw [HMB.out], ?_, hst⟩
      have ho := own_step HO3.out (Step.setRow (F := fun k => k = w.heap.size + 1 + 1) Step.refl (.inl rfl) MB) (fun k hk e => by subst e; exact own_tag HO3.out HZ3.out (by decide) hk)
      refine HRf.out.with1 hst ?_
      rw [List.length_append, ← HN.out]
      exact (Reads.of_own ho).mono fun k _ hk => own_ge ho k hk
  · refine Mxt.wpTL_reads ?_
    simp only [List.flatMap_cons, List.flatMap_nil, List.getElem?_cons_succ, List.getElem?_cons_zero, Option.toList_some, List.cons_append, List.nil_append]
    repeat (go_big_quiet_step (fail))
    refine wpQuiet_nil ?_
    refine Mxt.wpTL_op (by rfl) (fun K hK => ?_)
    go_simp
    refine hK _ _ (fun hlt => Mix.cl (Step.drew (Step.alloc Step.refl _))) ?_
    clear hK K
    refine Mxt.wpTL_reads ?_
    simp only [List.flatMap_cons, List.flatMap_nil, List.getElem?_cons_succ, List.getElem?_cons_zero, Option.toList_some, List.cons_append, List.nil_append]
    repeat (go_big_quiet_step (fail))
    refine wpQuiet_nil ?_
    refine Mxt.wpTL_op (by rfl) (fun K hK => ?_)
    go_simp
    refine hK _ _ (fun hlt => Mix.cl (Step.drew (Step.alloc (Step.alloc Step.refl _) _))) ?_
    clear hK K
    refine Mxt.wpTL_op (by rfl) (fun K hK => ?_)
    refine step_append_new (w0 := w4) (by rfl) _ _ (by rfl) E_ims (Step.drew (Step.alloc (Step.alloc Step.refl _) _)) (by rfl) (hfC) (by rfl) (hrC) hone1 hm1 (by omega) ?_
    intro D1 c1 W1 hown1 hS1 hgrow1 hat1
    refine hK _ _ (fun hlt => Mix.cl hS1) ?_
    clear hK K
    simp only [Act.put, List.setIfInBounds_toArray, List.set_cons_succ, List.set_cons_zero, Nat.zero_add]
    simp only [Nat.zero_add] at hown1
    have hx1 := hxC.step (Step.grown (F := fun k => blkOf (some (⟨w4.heap.size + 1, 0, none⟩ : Addr)) = some k) Step.refl hgrow1 (fun k hk => .inl hk)) (fun k hk e => by simp [blkOf] at e; omega)
    refine Mxt.wpTL_op (by rfl) (fun K hK => ?_)
    refine step_append_new (w0 := w4) (by rfl) _ _ (by rfl) E_ims (hS1) (by rfl) (hown1) (by rfl) (hx1) hone2 hm2 (by omega) ?_
    intro D2 c2 W2 hown2 hS2 hgrow2 hat2
    refine hK _ _ (fun hlt => Mix.cl hS2) ?_
    clear hK K
    simp only [Act.put, List.setIfInBounds_toArray, List.set_cons_succ, List.set_cons_zero, Nat.zero_add]
    refine Mxt.wpTL_reads ?_
    simp only [List.flatMap_cons, List.flatMap_nil, List.getElem?_cons_succ, List.getElem?_cons_zero, Option.toList_some, List.cons_append, List.nil_append]
    repeat (go_big_quiet_step (fail))
    refine wpQuiet_nil ?_
    have hB2 := HB4.out.step hS2 id
    have z0 := hB2.frozen 1
    have c0 := hB2.cell 1
    rw [HMA.out] at c0
    simp [mdC] at c0
    refine Mxt.wpTL_op (by rfl) (fun K hK => ?_)
    go_simp
    refine hK _ _ (fun hlt => absurd hlt (by decide)) ?_
    clear hK K z0 c0
    refine Mxt.wpTL_leaf ?_
    as_aux_lemma =>
    obtain ⟨W3, hW3⟩ : ∃ W3, W3 = W2.setCell ⟨w.heap.size, 1, none⟩ (.slice D2 (N + 1) c2) := ⟨_, rfl⟩
    obtain ⟨MB, hMB⟩ : ∃ MB, MB = mdC { a with A1 := D2, c1 := c2 } { s with is := s.is ++ [x] } := ⟨_, rfl⟩
    have HMB := Lib.hid hMB
    have H17b : Hid (MB.size = 17) := by rw [Hid, hMB]; rfl
    have H1b : Hid (MB.all (·.oneCell') = true) := by rw [Hid, hMB]; exact mdC_one _ _
    have HB3 : Hid (Blk W3 (w.heap.size) 41 MB) := by
      have := hB2.set_ 1 (.slice D2 (N + 1) c2)
      rw [← hW3, HMA.out] at this
      simp [mdC] at this
      rw [hMB]
      simp [mdC]
      rw [← HN.out]
      exact this
    have HZ3 : Hid (Blk W3 (w.heap.size + 1 + 1) 41 #[.slice none 0 0, .slice none 0 0, .slice none 0 0, .slice none 0 0, .slice none 0 0, .slice none 0 0, .slice none 0 0, .int .i64 0, .slice none 0 0, .slice none 0 0, .slice none 0 0, .bool false, .int .u32 0, .int .u32 0, .int .u32 0, .int .u32 0, .slice none 0 0]) := by rw [hW3]; exact (HZ4.out.step hS2 id).far (by show (w.heap.size + 1 + 1 : Nat) ≠ w.heap.size; omega) _
    have HO3 : Hid (W3.ownsRow w.heap.size 67 9 (.slice D2 (N + 1) c2) (N + 1) (ims (s.is ++ [x]))) := by
      rw [hW3, ims_last]
      exact own_set (own_base hown2 (fun k hk => by have h1 := own_ge hown2 k hk; have h2 := HS4.out.size; omega)) (otag hown2 hB2 (by decide) |> fun h e => h (by rwa [ownBlock_slice] at e)) _
    have HS3 : Hid (Step (fun _ => False) w W3) := by rw [hW3]; exact (HS4.out.trans hS2).setCell (.inr (by simp)) _
    have c0 := HB3.out.cell 1
    rw [hMB] at c0
    simp [mdC] at c0
    rw [← hW3]
    clear hW3 hB2 hown1 hown2 hS1 hS2 hgrow1 hgrow2 hat1 hat2 hMB
    clear c0
    go_wp2_with (first | (refine ld_mod rfl _ rfl _ rfl MB HB3.out H17b.out ?_) | (refine st_mod rfl _ _ rfl rfl (w.heap.size + 1 + 1) rfl MB rfl HZ3.out rfl H17b.out H1b.out ?_))
    refine bodyPost_ret (v := .tuple #[.agg MB, .int .u32 _, .bool true]) (res_mod3 Try.results50 (w.heap.size + 1 + 1) rfl rfl rfl (Blk.row HZ3.out MB) H17b.out) rfl ?_
    have hst := HS3.out.setRow (g := w.heap.size + 1 + 1) (.inr (by omega)) MB
    refine ⟨_, rfl, ?_⟩
    rw [HRR.out]
    refine ⟨D2, c2, _, by rw [HMB.out], ?_, hst⟩
    have ho := own_step HO3.out (Step.setRow (F := fun k => k = w.heap.size + 1 + 1) Step.refl (.inl rfl) MB) (fun k hk e => by subst e; exact own_tag HO3.out HZ3.out (by decide) hk)
    refine HRf.out.with1 hst ?_
    rw [List.length_append, ← HN.out]
    exact (Reads.of_own ho).mono fun k _ hk => own_ge ho k hk

set_option maxRecDepth 100000 in
set_option maxHeartbeats 3200000 in
theorem rtake_late (hR : Rf w S a s) (nm : List UInt8) (x : Ft) (hf : 0 < s.fs.length) :
    Calls Try.prog 38 #[.agg (mdC a s), .string (str nm), .agg #[Value.string (str x.p), .string (str x.r)]] w fun e w' => e = .returned (.tuple #[.agg (mdC a s), .int .u32 0, .bool false]) ∧ Step (fun _ => False) w w' := by
  obtain ⟨v1, hv1⟩ : ∃ v1, v1 = w.alloc (.cells (mdC a s) 41) := ⟨_, rfl⟩
  obtain ⟨v2, hv2⟩ : ∃ v2, v2 = v1.alloc (.cells #[Value.string (str x.p), .string (str x.r)] 46) := ⟨_, rfl⟩
  obtain ⟨v3, hv3⟩ : ∃ v3, v3 = v2.alloc (.cells #[.slice none 0 0, .slice none 0 0, .slice none 0 0, .slice none 0 0, .slice none 0 0, .slice none 0 0, .slice none 0 0, .int .i64 0, .slice none 0 0, .slice none 0 0, .slice none 0 0, .bool false, .int .u32 0, .int .u32 0, .int .u32 0, .int .u32 0, .slice none 0 0] 41) := ⟨_, rfl⟩
  have e0 : w.heap.size = w.heap.size := rfl
  have e1 : v1.heap.size = w.heap.size + 1 := by rw [hv1]; simp [e0]
  have s1 : Step (fun _ => False) w v1 := by rw [hv1]; exact Step.alloc Step.refl _
  have e2 : v2.heap.size = w.heap.size + 1 + 1 := by rw [hv2]; simp [e1]
  have s2 : Step (fun _ => False) v1 v2 := by rw [hv2]; exact Step.alloc Step.refl _
  have e3 : v3.heap.size = w.heap.size + 1 + 1 + 1 := by rw [hv3]; simp [e2]
  have s3 : Step (fun _ => False) v2 v3 := by rw [hv3]; exact Step.alloc Step.refl _
  have HB : Hid (Blk v3 (w.heap.size) 41 (mdC a s)) := by
    have h1 : Blk v1 w.heap.size 41 (mdC a s) := by rw [hv1]; exact Blk.new w _ _
    exact ((h1.step s2 id).step s3 id)
  have HX : Hid (Blk v3 (w.heap.size + 1) 46 #[Value.string (str x.p), .string (str x.r)]) := by
    have h1 : Blk v2 v1.heap.size 46 #[Value.string (str x.p), .string (str x.r)] := by rw [hv2]; exact Blk.new v1 _ _
    rw [e1] at h1
    exact (h1.step s3 id)
  have HZ : Hid (Blk v3 (w.heap.size + 1 + 1) 41 #[.slice none 0 0, .slice none 0 0, .slice none 0 0, .slice none 0 0, .slice none 0 0, .slice none 0 0, .slice none 0 0, .int .i64 0, .slice none 0 0, .slice none 0 0, .slice none 0 0, .bool false, .int .u32 0, .int .u32 0, .int .u32 0, .int .u32 0, .slice none 0 0]) := by
    have h1 : Blk v3 v2.heap.size 41 #[.slice none 0 0, .slice none 0 0, .slice none 0 0, .slice none 0 0, .slice none 0 0, .slice none 0 0, .slice none 0 0, .int .i64 0, .slice none 0 0, .slice none 0 0, .slice none 0 0, .bool false, .int .u32 0, .int .u32 0, .int .u32 0, .int .u32 0, .slice none 0 0] := by rw [hv3]; exact Blk.new v2 _ _
    rw [e2] at h1
    exact h1
  have HS : Hid (Step (fun _ => False) w v3) := s1 |>.trans s2 |>.trans s3
  have HE1 := Lib.hid hv1
  have HE2 := Lib.hid hv2
  have HE3 := Lib.hid hv3
  clear e1 s1 hv1 e2 s2 hv2 e3 s3 hv3 e0
  obtain ⟨MA, hMA⟩ : ∃ MA, MA = mdC a s := ⟨_, rfl⟩
  rw [← hMA] at HE1 HB ⊢
  have HMA := Lib.hid hMA
  have H17 : Hid (MA.size = 17) := by rw [Hid, hMA]; rfl
  have H1 : Hid (MA.all (·.oneCell') = true) := by rw [Hid, hMA]; exact mdC_one a s
  clear hMA
  have c2 := HB.out.cell 2
  rw [HMA.out] at c2
  simp [mdC] at c2
  rw [HE3.out, HE2.out, HE1.out] at c2
  have g0 : (0 : Int) < (s.fs.length : Int) := by omega
  go_enter Try.func38, Try.ntmps38
  go_wp2_with (first | (refine ld_mod rfl _ rfl _ rfl MA (by first | exact HB.out | (rw [← HE1.out, ← HE2.out, ← HE3.out]; exact HB.out)) H17.out ?_) | (refine st_mod rfl _ _ rfl rfl (w.heap.size + 1 + 1) rfl MA rfl (by first | exact HZ.out | (rw [← HE1.out, ← HE2.out, ← HE3.out]; exact HZ.out)) rfl H17.out H1.out ?_))
  rw [← HE1.out]
  rw [← HE2.out]
  rw [← HE3.out]
  refine bodyPost_ret (v := .tuple #[.agg MA, .int .u32 0, .bool false]) (res_mod3 Try.results38 (w.heap.size + 1 + 1) rfl rfl rfl (Blk.row HZ.out MA) H17.out) rfl ?_
  exact ⟨rfl, HS.out.setRow (.inr (by omega)) _⟩

set_option maxRecDepth 100000 in
set_option maxHeartbeats 12800000 in
theorem rtake_ok (hR0 : Rf w S a s) (hl : s.ts.length ≤ 1000) (hl2 : s.is.length ≤ 1000) (nm : List UInt8) (x : Ft) (hf : s.fs.length = 0) :
    Calls Try.prog 38 #[.agg (mdC a s), .string (str nm), .agg #[Value.string (str x.p), .string (str x.r)]] w fun e w' => ∃ a' z, e = .returned (.tuple #[.agg (mdC a' { s with ts := tyL s.ts x, is := s.is ++ [⟨envL, nm, 0, tyI s.ts x, 0, false⟩] }), .int .u32 z, .bool true]) ∧ Rf w' (fun k => S k ∨ w.heap.size ≤ k) a' { s with ts := tyL s.ts x, is := s.is ++ [⟨envL, nm, 0, tyI s.ts x, 0, false⟩] } ∧ Step (fun _ => False) w w' := by
  have hR : Rf w (fun k => S k ∧ k < w.heap.size) a s := hR0.mono fun k hk h => ⟨h, hk⟩
  clear hR0
  obtain ⟨v1, hv1⟩ : ∃ v1, v1 = w.alloc (.cells (mdC a s) 41) := ⟨_, rfl⟩
  obtain ⟨v2, hv2⟩ : ∃ v2, v2 = v1.alloc (.cells #[Value.string (str x.p), .string (str x.r)] 46) := ⟨_, rfl⟩
  obtain ⟨v3, hv3⟩ : ∃ v3, v3 = v2.alloc (.cells #[.slice none 0 0, .slice none 0 0, .slice none 0 0, .slice none 0 0, .slice none 0 0, .slice none 0 0, .slice none 0 0, .int .i64 0, .slice none 0 0, .slice none 0 0, .slice none 0 0, .bool false, .int .u32 0, .int .u32 0, .int .u32 0, .int .u32 0, .slice none 0 0] 41) := ⟨_, rfl⟩
  have e0 : w.heap.size = w.heap.size := rfl
  have e1 : v1.heap.size = w.heap.size + 1 := by rw [hv1]; simp [e0]
  have s1 : Step (fun _ => False) w v1 := by rw [hv1]; exact Step.alloc Step.refl _
  have e2 : v2.heap.size = w.heap.size + 1 + 1 := by rw [hv2]; simp [e1]
  have s2 : Step (fun _ => False) v1 v2 := by rw [hv2]; exact Step.alloc Step.refl _
  have e3 : v3.heap.size = w.heap.size + 1 + 1 + 1 := by rw [hv3]; simp [e2]
  have s3 : Step (fun _ => False) v2 v3 := by rw [hv3]; exact Step.alloc Step.refl _
  have HB : Hid (Blk v3 (w.heap.size) 41 (mdC a s)) := by
    have h1 : Blk v1 w.heap.size 41 (mdC a s) := by rw [hv1]; exact Blk.new w _ _
    exact ((h1.step s2 id).step s3 id)
  have HX : Hid (Blk v3 (w.heap.size + 1) 46 #[Value.string (str x.p), .string (str x.r)]) := by
    have h1 : Blk v2 v1.heap.size 46 #[Value.string (str x.p), .string (str x.r)] := by rw [hv2]; exact Blk.new v1 _ _
    rw [e1] at h1
    exact (h1.step s3 id)
  have HZ : Hid (Blk v3 (w.heap.size + 1 + 1) 41 #[.slice none 0 0, .slice none 0 0, .slice none 0 0, .slice none 0 0, .slice none 0 0, .slice none 0 0, .slice none 0 0, .int .i64 0, .slice none 0 0, .slice none 0 0, .slice none 0 0, .bool false, .int .u32 0, .int .u32 0, .int .u32 0, .int .u32 0, .slice none 0 0]) := by
    have h1 : Blk v3 v2.heap.size 41 #[.slice none 0 0, .slice none 0 0, .slice none 0 0, .slice none 0 0, .slice none 0 0, .slice none 0 0, .slice none 0 0, .int .i64 0, .slice none 0 0, .slice none 0 0, .slice none 0 0, .bool false, .int .u32 0, .int .u32 0, .int .u32 0, .int .u32 0, .slice none 0 0] := by rw [hv3]; exact Blk.new v2 _ _
    rw [e2] at h1
    exact h1
  have HS : Hid (Step (fun _ => False) w v3) := s1 |>.trans s2 |>.trans s3
  have HE1 := Lib.hid hv1
  have HE2 := Lib.hid hv2
  have HE3 := Lib.hid hv3
  clear e1 s1 hv1 e2 s2 hv2 e3 s3 hv3 e0
  have hTy := rtype_ok v3 a s _ (hR.step HS.out (fun _ _ => id)) hl x
  have hsz3 : v3.heap.size = w.heap.size + 1 + 1 + 1 := by rw [HE3.out, HE2.out, HE1.out]; simp
  obtain ⟨MA, hMA⟩ : ∃ MA, MA = mdC a s := ⟨_, rfl⟩
  rw [← hMA] at HE1 HB ⊢
  have HMA := Lib.hid hMA
  have H17 : Hid (MA.size = 17) := by rw [Hid, hMA]; rfl
  have H1 : Hid (MA.all (·.oneCell') = true) := by rw [Hid, hMA]; exact mdC_one a s
  clear hMA
  rw [show mdC a s = MA from HMA.out.symm] at hTy
  have HTy2 := Lib.hid hTy
  obtain ⟨q, hq⟩ : ∃ q, q = tyI s.ts x := ⟨_, rfl⟩
  obtain ⟨L', hL'⟩ : ∃ L', L' = tyL s.ts x := ⟨_, rfl⟩
  rw [← hq, ← hL'] at HTy2
  rw [← hq, ← hL']
  clear hTy
  obtain ⟨RR, hRR⟩ : ∃ RR : Value → World → Prop, RR = fun e w' => ∃ a' z, e = .tuple #[.agg (mdC a' { s with ts := L', is := s.is ++ [⟨envL, nm, 0, q, 0, false⟩] }), .int .u32 z, .bool true] ∧ Rf w' (fun k => S k ∨ w.heap.size ≤ k) a' { s with ts := L', is := s.is ++ [⟨envL, nm, 0, q, 0, false⟩] } ∧ Step (fun _ => False) w w' := ⟨_, rfl⟩
  have HRR := Lib.hid hRR
  refine (show Calls Try.prog 38 #[.agg MA, .string (str nm), .agg #[Value.string (str x.p), .string (str x.r)]] w (fun e w' => ∃ v, e = .returned v ∧ RR v w') from ?_ ).mono ?h2
  case h2 =>
    rintro e w' ⟨v, rfl, hv⟩
    rw [HRR.out] at hv
    obtain ⟨a', z, rfl, hv⟩ := hv
    exact ⟨a', z, rfl, hv⟩
  clear hRR
  have c2 := HB.out.cell 2
  rw [HMA.out] at c2
  simp [mdC] at c2
  rw [hf] at c2
  rw [HE3.out, HE2.out, HE1.out] at c2
  have hHX := HX.out
  rw [HE3.out, HE2.out, HE1.out] at hHX
  have x0 := hHX.cell 0
  have x1 := hHX.cell 1
  simp at x0 x1
  clear hR hHX hq hL'
  go_enter Try.func38, Try.ntmps38
  go_wp2_with (first | (refine ld_mod rfl _ rfl _ rfl MA (by first | exact HB.out | (rw [← HE1.out, ← HE2.out, ← HE3.out]; exact HB.out)) H17.out ?_))
  rw [← HE1.out]
  rw [← HE2.out]
  rw [← HE3.out]
  clear x0 x1 c2
  refine HTy2.out.mono ?_
  rintro e w4 ⟨D4, c4, rfl, hrf4, hs4⟩
  obtain ⟨MB, hMB⟩ : ∃ MB, MB = mdC { a with A0 := D4, c0 := c4 } { s with ts := L' } := ⟨_, rfl⟩
  rw [← hMB]
  have H17b : Hid (MB.size = 17) := by rw [Hid, hMB]; rfl
  have H1b : Hid (MB.all (·.oneCell') = true) := by rw [Hid, hMB]; exact mdC_one _ _
  have HB4 := Lib.hid (HB.out.step hs4 id)
  have HZ4 := Lib.hid (HZ.out.step hs4 id)
  have HS4 := Lib.hid (HS.out.trans hs4)
  obtain ⟨w5, hw5⟩ : ∃ w5, w5 = w4.setRow w.heap.size MB := ⟨_, rfl⟩
  have HB5 : Hid (Blk w5 w.heap.size 41 MB) := by rw [hw5]; exact HB4.out.row _
  have hs45 : Step (fun k => k = w.heap.size) w4 w5 := by rw [hw5]; exact Step.setRow (F := fun k => k = w.heap.size) Step.refl (.inl rfl) _
  have HZ5 : Hid (Blk w5 (w.heap.size + 1 + 1) 41 #[.slice none 0 0, .slice none 0 0, .slice none 0 0, .slice none 0 0, .slice none 0 0, .slice none 0 0, .slice none 0 0, .int .i64 0, .slice none 0 0, .slice none 0 0, .slice none 0 0, .bool false, .int .u32 0, .int .u32 0, .int .u32 0, .int .u32 0, .slice none 0 0]) := HZ4.out.step hs45 (by show ¬ (w.heap.size + 1 + 1 = w.heap.size); omega)
  have HS5 : Hid (Step (fun _ => False) w w5) := HS4.out.trans' hs45 (fun k hk => .inr (by omega))
  have hrf5 := hrf4.step hs45 (fun k hk e => by rcases hk with h1 | h1 <;> omega)
  have HAd := Lib.hid (add_ok w5 _ _ _ hrf5 hl2 ⟨envL, nm, 0, q, 0, false⟩)
  rw [← hMB] at HAd
  have HW5 := Lib.hid hw5
  have hsz34 := hs4.size
  rw [hsz3] at hsz34
  clear hMB hs4 hrf4 hs45 hrf5 hw5
  go_wp2_with (first | (refine st_mod rfl _ _ rfl rfl w.heap.size rfl MB rfl HB4.out H17.out H17b.out H1b.out ?_) | (refine ld_mod rfl _ rfl _ rfl MB (by rw [← HW5.out]; exact HB5.out) H17b.out ?_))
  rw [← HW5.out]
  refine HAd.out.mono ?_
  rintro e w6 ⟨D6, c6, z, rfl, hrf6, hs6⟩
  obtain ⟨MC, hMC⟩ : ∃ MC, MC = mdC { a with A0 := D4, c0 := c4, A1 := D6, c1 := c6 } { s with ts := L', is := s.is ++ [⟨envL, nm, 0, q, 0, false⟩] } := ⟨_, rfl⟩
  have H17c : Hid (MC.size = 17) := by rw [Hid, hMC]; rfl
  have H1c : Hid (MC.all (·.oneCell') = true) := by rw [Hid, hMC]; exact mdC_one _ _
  have HZ6 := Lib.hid (HZ5.out.step hs6 id)
  have HMC := Lib.hid hMC
  rw [show mdC _ _ = MC from hMC.symm]
  clear hMC
  go_wp2_with (first | (refine st_mod rfl _ _ rfl rfl (w.heap.size + 1 + 1) rfl MC rfl HZ6.out rfl H17c.out H1c.out ?_))
  have hst := (HS5.out.trans hs6).setRow (g := w.heap.size + 1 + 1) (.inr (by omega)) MC
  refine bodyPost_ret (v := .tuple #[.agg MC, .int .u32 z, .bool true]) (res_mod3 Try.results38 (w.heap.size + 1 + 1) rfl rfl rfl (Blk.row HZ6.out MC) H17c.out) rfl ?_
  refine ⟨_, rfl, ?_⟩
  rw [HRR.out]
  refine ⟨_, z, by rw [HMC.out], ?_, hst⟩
  have hs67 : Step (fun k => k = w.heap.size + 1 + 1) w6 (w6.setRow (w.heap.size + 1 + 1) MC) := Step.setRow (F := fun k => k = w.heap.size + 1 + 1) Step.refl (.inl rfl) _
  have h5 := HS5.out.size
  have h55 : w.heap.size + 1 + 1 + 1 ≤ w5.heap.size := by rw [HW5.out]; simpa using hsz34
  exact (hrf6.step hs67 (fun k hk e => by rcases hk with (h1 | h1) | h1 <;> omega)).mono fun k _ hk => by
    rcases hk with (h1 | h1) | h1
    · exact .inl h1.1
    · exact .inr (by omega)
    · exact .inr (by omega)

set_option maxRecDepth 100000 in
set_option maxHeartbeats 6400000 in
theorem want_late (hR0 : Rf w S a s) (hl : s.is.length ≤ 1000) (x y : List UInt8) (b : Bool) (hb : (!((str x).toList == [101, 110, 118])) = b) (hg : 0 < s.gs.length) :
    Calls Try.prog 40 #[.agg (mdC a s), .string (str x), .string (str y)] w fun e w' => e = .returned (.tuple #[.agg (mdC a s), .int .u32 0, .bool false]) ∧ Step (fun _ => False) w w' := by
  have hR : Rf w (fun k => S k ∧ k < w.heap.size) a s := hR0.mono fun k hk h => ⟨h, hk⟩
  clear hR0
  obtain ⟨v1, hv1⟩ : ∃ v1, v1 = w.alloc (.cells (mdC a s) 41) := ⟨_, rfl⟩
  obtain ⟨v2, hv2⟩ : ∃ v2, v2 = v1.alloc (.cells #[.slice none 0 0, .slice none 0 0, .slice none 0 0, .slice none 0 0, .slice none 0 0, .slice none 0 0, .slice none 0 0, .int .i64 0, .slice none 0 0, .slice none 0 0, .slice none 0 0, .bool false, .int .u32 0, .int .u32 0, .int .u32 0, .int .u32 0, .slice none 0 0] 41) := ⟨_, rfl⟩
  have e0 : w.heap.size = w.heap.size := rfl
  have e1 : v1.heap.size = w.heap.size + 1 := by rw [hv1]; simp [e0]
  have s1 : Step (fun _ => False) w v1 := by rw [hv1]; exact Step.alloc Step.refl _
  have e2 : v2.heap.size = w.heap.size + 1 + 1 := by rw [hv2]; simp [e1]
  have s2 : Step (fun _ => False) v1 v2 := by rw [hv2]; exact Step.alloc Step.refl _
  have HB : Hid (Blk v2 (w.heap.size) 41 (mdC a s)) := by
    have h1 : Blk v1 w.heap.size 41 (mdC a s) := by rw [hv1]; exact Blk.new w _ _
    exact (h1.step s2 id)
  have HZ : Hid (Blk v2 (w.heap.size + 1) 41 #[.slice none 0 0, .slice none 0 0, .slice none 0 0, .slice none 0 0, .slice none 0 0, .slice none 0 0, .slice none 0 0, .int .i64 0, .slice none 0 0, .slice none 0 0, .slice none 0 0, .bool false, .int .u32 0, .int .u32 0, .int .u32 0, .int .u32 0, .slice none 0 0]) := by
    have h1 : Blk v2 v1.heap.size 41 #[.slice none 0 0, .slice none 0 0, .slice none 0 0, .slice none 0 0, .slice none 0 0, .slice none 0 0, .slice none 0 0, .int .i64 0, .slice none 0 0, .slice none 0 0, .slice none 0 0, .bool false, .int .u32 0, .int .u32 0, .int .u32 0, .int .u32 0, .slice none 0 0] := by rw [hv2]; exact Blk.new v1 _ _
    rw [e1] at h1
    exact h1
  have HS : Hid (Step (fun _ => False) w v2) := s1 |>.trans s2
  have HE1 := Lib.hid hv1
  have HE2 := Lib.hid hv2
  clear e1 s1 hv1 e2 s2 hv2 e0
  have hAd := add_late v2 a s _ (hR.step HS.out (fun _ _ => id)) ⟨x, y, 3, 0, 127, b⟩
  obtain ⟨MA, hMA⟩ : ∃ MA, MA = mdC a s := ⟨_, rfl⟩
  rw [← hMA] at HE1 HB ⊢
  have HMA := Lib.hid hMA
  have H17 : Hid (MA.size = 17) := by rw [Hid, hMA]; rfl
  have H1 : Hid (MA.all (·.oneCell') = true) := by rw [Hid, hMA]; exact mdC_one a s
  clear hMA
  rw [show mdC a s = MA from HMA.out.symm] at hAd
  have HAd := Lib.hid hAd
  clear hAd
  have c5 := HB.out.cell 5
  rw [HMA.out] at c5
  simp [mdC] at c5
  rw [HE2.out, HE1.out] at c5
  have g0 : (0 : Int) < (s.gs.length : Int) := by omega
  have f1 : ({ data := #[101, 110, 118] } : ByteArray).toList = [101, 110, 118] := str_toList [101, 110, 118]
  have HBB := Lib.hid hb
  clear hb
  go_enter Try.func40, Try.ntmps40
  go_wp2_with (first | (refine ld_mod rfl _ rfl _ rfl MA (by first | exact HB.out | (rw [← HE1.out, ← HE2.out]; exact HB.out)) H17.out ?_))
  rw [← HE1.out]
  rw [← HE2.out]
  rw [HBB.out]
  clear c5
  refine HAd.out.mono ?_
  rintro e w6 ⟨rfl, hs6⟩
  have HZ6 := Lib.hid (HZ.out.step hs6 id)
  go_wp2_with (first | (refine st_mod rfl _ _ rfl rfl (w.heap.size + 1) rfl MA rfl HZ6.out rfl H17.out H1.out ?_))
  refine bodyPost_ret (v := .tuple #[.agg MA, .int .u32 0, .bool false]) (res_mod3 Try.results40 (w.heap.size + 1) rfl rfl rfl (Blk.row HZ6.out MA) H17.out) rfl ?_
  exact ⟨rfl, (HS.out.trans hs6).setRow (.inr (by omega)) _⟩

set_option maxRecDepth 100000 in
set_option maxHeartbeats 6400000 in
theorem want_ok (hR0 : Rf w S a s) (hl : s.is.length ≤ 1000) (x y : List UInt8) (b : Bool) (hb : (!((str x).toList == [101, 110, 118])) = b) (hg : s.gs.length = 0) :
    Calls Try.prog 40 #[.agg (mdC a s), .string (str x), .string (str y)] w fun e w' => ∃ a' z, e = .returned (.tuple #[.agg (mdC a' { s with is := s.is ++ [⟨x, y, 3, 0, 127, b⟩] }), .int .u32 z, .bool true]) ∧ Rf w' (fun k => S k ∨ w.heap.size ≤ k) a' { s with is := s.is ++ [⟨x, y, 3, 0, 127, b⟩] } ∧ Step (fun _ => False) w w' := by
  have hR : Rf w (fun k => S k ∧ k < w.heap.size) a s := hR0.mono fun k hk h => ⟨h, hk⟩
  clear hR0
  obtain ⟨v1, hv1⟩ : ∃ v1, v1 = w.alloc (.cells (mdC a s) 41) := ⟨_, rfl⟩
  obtain ⟨v2, hv2⟩ : ∃ v2, v2 = v1.alloc (.cells #[.slice none 0 0, .slice none 0 0, .slice none 0 0, .slice none 0 0, .slice none 0 0, .slice none 0 0, .slice none 0 0, .int .i64 0, .slice none 0 0, .slice none 0 0, .slice none 0 0, .bool false, .int .u32 0, .int .u32 0, .int .u32 0, .int .u32 0, .slice none 0 0] 41) := ⟨_, rfl⟩
  have e0 : w.heap.size = w.heap.size := rfl
  have e1 : v1.heap.size = w.heap.size + 1 := by rw [hv1]; simp [e0]
  have s1 : Step (fun _ => False) w v1 := by rw [hv1]; exact Step.alloc Step.refl _
  have e2 : v2.heap.size = w.heap.size + 1 + 1 := by rw [hv2]; simp [e1]
  have s2 : Step (fun _ => False) v1 v2 := by rw [hv2]; exact Step.alloc Step.refl _
  have HB : Hid (Blk v2 (w.heap.size) 41 (mdC a s)) := by
    have h1 : Blk v1 w.heap.size 41 (mdC a s) := by rw [hv1]; exact Blk.new w _ _
    exact (h1.step s2 id)
  have HZ : Hid (Blk v2 (w.heap.size + 1) 41 #[.slice none 0 0, .slice none 0 0, .slice none 0 0, .slice none 0 0, .slice none 0 0, .slice none 0 0, .slice none 0 0, .int .i64 0, .slice none 0 0, .slice none 0 0, .slice none 0 0, .bool false, .int .u32 0, .int .u32 0, .int .u32 0, .int .u32 0, .slice none 0 0]) := by
    have h1 : Blk v2 v1.heap.size 41 #[.slice none 0 0, .slice none 0 0, .slice none 0 0, .slice none 0 0, .slice none 0 0, .slice none 0 0, .slice none 0 0, .int .i64 0, .slice none 0 0, .slice none 0 0, .slice none 0 0, .bool false, .int .u32 0, .int .u32 0, .int .u32 0, .int .u32 0, .slice none 0 0] := by rw [hv2]; exact Blk.new v1 _ _
    rw [e1] at h1
    exact h1
  have HS : Hid (Step (fun _ => False) w v2) := s1 |>.trans s2
  have HE1 := Lib.hid hv1
  have HE2 := Lib.hid hv2
  clear e1 s1 hv1 e2 s2 hv2 e0
  have hAd := add_ok v2 a s _ (hR.step HS.out (fun _ _ => id)) hl ⟨x, y, 3, 0, 127, b⟩
  have hsz3 : v2.heap.size = w.heap.size + 1 + 1 := by rw [HE2.out, HE1.out]; simp
  obtain ⟨MA, hMA⟩ : ∃ MA, MA = mdC a s := ⟨_, rfl⟩
  rw [← hMA] at HE1 HB ⊢
  have HMA := Lib.hid hMA
  have H17 : Hid (MA.size = 17) := by rw [Hid, hMA]; rfl
  have H1 : Hid (MA.all (·.oneCell') = true) := by rw [Hid, hMA]; exact mdC_one a s
  clear hMA
  rw [show mdC a s = MA from HMA.out.symm] at hAd
  have HAd := Lib.hid hAd
  clear hAd
  have c5 := HB.out.cell 5
  rw [HMA.out] at c5
  simp [mdC] at c5
  obtain ⟨RR, hRR⟩ : ∃ RR : Value → World → Prop, RR = fun e w' => ∃ a' z, e = .tuple #[.agg (mdC a' { s with is := s.is ++ [⟨x, y, 3, 0, 127, b⟩] }), .int .u32 z, .bool true] ∧ Rf w' (fun k => S k ∨ w.heap.size ≤ k) a' { s with is := s.is ++ [⟨x, y, 3, 0, 127, b⟩] } ∧ Step (fun _ => False) w w' := ⟨_, rfl⟩
  have HRR := Lib.hid hRR
  refine (show Calls Try.prog 40 #[.agg MA, .string (str x), .string (str y)] w (fun e w' => ∃ v, e = .returned v ∧ RR v w') from ?_ ).mono ?h2
  case h2 =>
    rintro e w' ⟨v, rfl, hv⟩
    rw [HRR.out] at hv
    obtain ⟨a', z, rfl, hv⟩ := hv
    exact ⟨a', z, rfl, hv⟩
  clear hRR
  rw [HE2.out, HE1.out] at c5
  rw [hg] at c5
  have f1 : ({ data := #[101, 110, 118] } : ByteArray).toList = [101, 110, 118] := str_toList [101, 110, 118]
  have HBB := Lib.hid hb
  clear hb
  go_enter Try.func40, Try.ntmps40
  go_wp2_with (first | (refine ld_mod rfl _ rfl _ rfl MA (by first | exact HB.out | (rw [← HE1.out, ← HE2.out]; exact HB.out)) H17.out ?_))
  rw [← HE1.out]
  rw [← HE2.out]
  rw [HBB.out]
  clear c5
  refine HAd.out.mono ?_
  rintro e w6 ⟨D6, c6, z, rfl, hrf6, hs6⟩
  obtain ⟨MC, hMC⟩ : ∃ MC, MC = mdC { a with A1 := D6, c1 := c6 } { s with is := s.is ++ [⟨x, y, 3, 0, 127, b⟩] } := ⟨_, rfl⟩
  have H17c : Hid (MC.size = 17) := by rw [Hid, hMC]; rfl
  have H1c : Hid (MC.all (·.oneCell') = true) := by rw [Hid, hMC]; exact mdC_one _ _
  have HZ6 := Lib.hid (HZ.out.step hs6 id)
  have HMC := Lib.hid hMC
  rw [show mdC _ _ = MC from hMC.symm]
  clear hMC
  go_wp2_with (first | (refine st_mod rfl _ _ rfl rfl (w.heap.size + 1) rfl MC rfl HZ6.out rfl H17c.out H1c.out ?_))
  have hst := (HS.out.trans hs6).setRow (g := w.heap.size + 1) (.inr (by omega)) MC
  refine bodyPost_ret (v := .tuple #[.agg MC, .int .u32 z, .bool true]) (res_mod3 Try.results40 (w.heap.size + 1) rfl rfl rfl (Blk.row HZ6.out MC) H17c.out) rfl ?_
  refine ⟨_, rfl, ?_⟩
  rw [HRR.out]
  refine ⟨_, z, by rw [HMC.out], ?_, hst⟩
  have hs67 : Step (fun k => k = w.heap.size + 1) w6 (w6.setRow (w.heap.size + 1) MC) := Step.setRow (F := fun k => k = w.heap.size + 1) Step.refl (.inl rfl) _
  exact (hrf6.step hs67 (fun k hk e => by rcases hk with h1 | h1 <;> omega)).mono fun k _ hk => by
    rcases hk with h1 | h1
    · exact .inl h1.1
    · exact .inr (by omega)
end
end Go.Proofs.Ytflgpjdpofmbkaa
