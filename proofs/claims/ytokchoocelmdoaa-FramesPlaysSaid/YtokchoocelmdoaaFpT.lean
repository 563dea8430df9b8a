/-
  FramesPlays: do, Open and Shut (printed by gen_fpt.py).
-/
import Derived.Test.YtokchoocelmdoaaFpS
import Derived.Test.YtokchoocelmdoaaMxt
set_option linter.unusedVariables false
set_option linter.unusedSimpArgs false
namespace Go.Proofs.Ytokchoocelmdoaa
open Go.RowKit

section
variable {w w1 w2 w' : World} {I I' : Nat → Prop} {g c : Nat} {A : Option Addr} {l l' : List It} {fs fs' : List Fm} {most n v st dst : Int}
set_option maxRecDepth 100000 in
set_option maxHeartbeats 3200000 in
theorem do_open_loop (hb : (bits BinOp.and IntKind.i64 n 2 == 2) = true) (H : Sta w I g A c l most) (hz : l.length ≤ 1000) :
    Calls Try.prog 7 #[.pointer (some ⟨g, 0, none⟩), .slice A l.length c, .agg #[.int .i64 5, .int .i64 n, .int .u64 v, .int .i64 st, .int .i64 dst], .int .i64 most] w (SAny w I g A (l.length + 1) most) := by
  have s1 : Step (fun _ => False) w (w.alloc (.cells #[.int .i64 5, .int .i64 n, .int .u64 v, .int .i64 st, .int .i64 dst] 30)) := Step.refl.alloc _
  have B1 := Lib.hid (Blk.new w 30 #[.int .i64 5, .int .i64 n, .int .u64 v, .int .i64 st, .int .i64 dst])
  have HV := Lib.hid (r_values (c := c) (Reads.of_own (H.quiet s1).own) (by omega))
  have S1 := Lib.hid s1
  have HH := Lib.hid H
  clear s1 H
  go_enter Try.func7, Try.ntmps7
  go_wp2_with fail
  refine HV.out.mono ?_
  rintro e V ⟨Dv, cv, rfl, hvo, hs⟩
  obtain ⟨N, hN⟩ : ∃ N, N = w.heap.size := ⟨_, rfl⟩
  rw [← hN] at B1 ⊢
  have HN : Hid (w.heap.size ≤ N) := by rw [hN]; exact Nat.le_refl _
  have B2 := Lib.hid (B1.out.step hs id)
  have SV := Lib.hid (S1.out.trans hs)
  have HVO := Lib.hid hvo
  have HI := HH.out.inI
  have HNI : Hid (¬ I N) := fun e => by have := HI N e; omega
  have HX := Lib.hid (HH.out.quiet SV.out)
  clear hs hvo B1 S1 HV HI hN
  have y0 := B2.out.cell 0
  have y1 := B2.out.cell 1
  have y2 := B2.out.cell 2
  have y3 := B2.out.cell 3
  have y4 := B2.out.cell 4
  simp at y0 y1 y2 y3 y4
  obtain ⟨fs, hf⟩ := HX.out.fst
  have hvl := vals_len (l := l)
  have hll := labs_len (l := l)
  have HFAR := Lib.hid (hf.far HX.out.own)
  have HKY := Lib.hid hf.2
  have HO := Lib.hid HX.out.own
  have HG := Lib.hid HX.out.good
  have HVL : Hid (valsI (l ++ [(⟨1, 0, st, dst, 0, true, 0⟩ : It)]) = valsI l) := by unfold Hid; rw [valsI_append]; exact List.append_nil _
  have HLA : Hid (labsI 0 (l ++ [(⟨1, 0, st, dst, 0, true, 0⟩ : It)]) = labsI 0 l ++ [⟨st, dst, 0, (valsI l).length, true⟩]) := by unfold Hid; rw [labsI_append, Nat.zero_add]; rfl
  have HFR : Hid (frsI 0 0 (l ++ [(⟨1, 0, st, dst, 0, true, 0⟩ : It)]) = frsI 0 0 l) := by unfold Hid; rw [frsI_append]; exact List.append_nil _
  have HG2 : Hid (Good (l ++ [(⟨1, 0, st, dst, 0, true, 0⟩ : It)])) := good_app HG.out (fun x hx => by rw [List.mem_singleton.1 hx]; exact ⟨.inr (.inl rfl), by constructor <;> simp <;> omega, by constructor <;> simp⟩)
  have N1 := Lib.hid (Blk.new V 57 #[.int .i64 1, .int .u64 0, .int .i64 st, .int .i64 dst, .int .i64 0, .bool true, .int .i64 0])
  have S1 : Hid (Step (fun _ => False) V (V.alloc (.cells #[.int .i64 1, .int .u64 0, .int .i64 st, .int .i64 dst, .int .i64 0, .bool true, .int .i64 0] 57))) := Step.refl.alloc _
  have hop := fs_open st dst 0 0 true (hf.1.quiet S1.out) (by omega) (by omega)
  have HOP := Lib.hid hop
  have HMI : Hid (¬ I V.heap.size) := fun e => by have := HX.out.inI _ e; omega
  have hNV : N < V.heap.size := B2.out.lt
  have hNV2 : N ≠ V.heap.size := by omega
  clear hf hop HVO
  go_upto_region 25 with fail
  obtain ⟨Z, hZ⟩ : ∃ Z, Z = V.alloc (.cells #[.int .i64 1, .int .u64 0, .int .i64 st, .int .i64 dst, .int .i64 0, .bool true, .int .i64 0] 57) := ⟨_, rfl⟩
  obtain ⟨M, hM⟩ : ∃ M, M = V.heap.size := ⟨_, rfl⟩
  rw [← hZ, ← hM]
  rw [← hZ] at N1 S1 HOP
  rw [← hM] at N1 HMI
  have B3 := Lib.hid (B2.out.step S1.out id)
  clear hZ hM y0 y1 y2 y3 y4 B2
  have y3 := B3.out.cell 3
  have y4 := B3.out.cell 4
  have m4 := N1.out.cell 4
  have m5 := N1.out.cell 5
  simp at y3 y4 m4 m5
  go_wp2_with fail
  refine HOP.out.mono ?_
  rintro e U ⟨rfl, I', h', u⟩
  have N2 := N1.out.step u.1 HMI.out
  have HU := Lib.hid (u.after S1.out)
  have HFS := Lib.hid h'
  have HO1 := Lib.hid (own_step HO.out HU.out.1 (fun k hk => HFAR.out k (by rwa [ownBlock_slice] at hk)))
  have hsrc := Reads.of_own HO1.out
  have x0 := N2.cell 0
  have x1 := N2.cell 1
  have x2 := N2.cell 2
  have x3 := N2.cell 3
  have x4 := N2.cell 4
  have x5 := N2.cell 5
  have x6 := N2.cell 6
  simp at x0 x1 x2 x3 x4 x5 x6
  have d0 := cls_cell (F := fun _ => False) (w0 := U) x0 id
  have d1 := cls_cell (F := fun _ => False) (w0 := U) x1 id
  have d2 := cls_cell (F := fun _ => False) (w0 := U) x2 id
  have d3 := cls_cell (F := fun _ => False) (w0 := U) x3 id
  have d4 := cls_cell (F := fun _ => False) (w0 := U) x4 id
  have d5 := cls_cell (F := fun _ => False) (w0 := U) x5 id
  have d6 := cls_cell (F := fun _ => False) (w0 := U) x6 id
  have hone1 := its_one l
  have hone2 : ∀ u ∈ (#[.int .i64 1, .int .u64 0, .int .i64 st, .int .i64 dst, .int .i64 0, .bool true, .int .i64 0] : Array Value).toList, u.oneCell' = true := it_one (⟨1, 0, st, dst, 0, true, 0⟩ : It)
  have hm1 : 0 + l.length ≤ maxLen := by unfold maxLen; omega
  have hm2 : l.length + 1 ≤ maxLen := by unfold maxLen; omega
  clear u h' y3 y4 m4 m5 x0 x1 x2 x3 x4 x5 x6 N2 N1 S1 HOP hb
  go_wp2_with fail
  have hz1 : (U.alloc (.cells #[.int .i64 1, .int .u64 0, .int .i64 st, .int .i64 dst, .int .i64 0, .bool true, .int .i64 0] 57)).heap.size = U.heap.size + 1 := by simp
  have hz0 : (U.alloc (.cells #[] 57)).heap.size = U.heap.size + 1 := by simp
  have hfA : (U.alloc (.cells #[] 57)).drew.ownsRow U.heap.size 57 7 (.slice (some ⟨U.heap.size, 0, none⟩) 0 0) 0 [] := own_drew (own_fresh 7 (Nat.le_refl _))
  have hrA := hsrc.step (F := fun _ => False) (Step.drew (Step.alloc Step.refl (.cells #[] 57))) (fun _ _ => id)
  have hfB : ((U.alloc (.cells #[] 57)).alloc (.cells #[.int .i64 1, .int .u64 0, .int .i64 st, .int .i64 dst, .int .i64 0, .bool true, .int .i64 0] 57)).drew.ownsRow U.heap.size 57 7 (.slice (some ⟨U.heap.size, 0, none⟩) 0 0) 0 [] := own_drew ((own_fresh 7 (Nat.le_refl _)).alloc _)
  have hrB := hsrc.step (F := fun _ => False) (Step.drew (Step.alloc (Step.alloc Step.refl (.cells #[] 57)) (.cells #[.int .i64 1, .int .u64 0, .int .i64 st, .int .i64 dst, .int .i64 0, .bool true, .int .i64 0] 57))) (fun _ _ => id)
  have hxB := (reads_new (U.alloc (.cells #[] 57)) #[.int .i64 1, .int .u64 0, .int .i64 st, .int .i64 dst, .int .i64 0, .bool true, .int .i64 0] 57 7 1 rfl).drew
  have hfC : ((U.alloc (.cells #[.int .i64 1, .int .u64 0, .int .i64 st, .int .i64 dst, .int .i64 0, .bool true, .int .i64 0] 57)).alloc (.cells #[] 57)).drew.ownsRow U.heap.size 57 7 (.slice (some ⟨U.heap.size + 1, 0, none⟩) 0 0) 0 [] := by
    have := own_drew (own_fresh (w := U.alloc (.cells #[.int .i64 1, .int .u64 0, .int .i64 st, .int .i64 dst, .int .i64 0, .bool true, .int .i64 0] 57)) (e := 57) (base := U.heap.size) 7 (by omega))
    rwa [hz1] at this
  have hrC := hsrc.step (F := fun _ => False) (Step.drew (Step.alloc (Step.alloc Step.refl (.cells #[.int .i64 1, .int .u64 0, .int .i64 st, .int .i64 dst, .int .i64 0, .bool true, .int .i64 0] 57)) (.cells #[] 57))) (fun _ _ => id)
  have hxC := ((reads_new U #[.int .i64 1, .int .u64 0, .int .i64 st, .int .i64 dst, .int .i64 0, .bool true, .int .i64 0] 57 7 1 rfl).step (F := fun _ => False) (Step.alloc Step.refl (.cells #[] 57)) (fun _ _ => id)).drew
  rw [hz0] at hxB
  refine Mxt.wp_region_tree [0, 2, 4, 5] [0, 2, 4, 5] (.fork (.op 0 (.reads [1] (.fork (.op 2 (.reads [3] (.op 4 (.op 5 (.reads [6, 7] .leaf))))) (.reads [3] (.op 4 (.op 2 (.op 5 (.reads [6, 7] .leaf)))))))) (.reads [3] (.op 4 (.reads [1] (.op 0 (.op 2 (.op 5 (.reads [6, 7] .leaf)))))))) (Step (fun _ => False) U) (by kernel_rfl) (by kernel_rfl) Step.refl.drew (fun hcls => ?_)
  refine Mxt.wpTL_fork ?_ ?_
  · refine Mxt.wpTL_op (by rfl) (fun K hK => ?_)
    go_simp
    refine hK _ _ (fun hlt => Mix.cl (Step.drew (Step.alloc Step.refl _))) ?_
    clear hK K
    refine Mxt.wpTL_reads ?_
    simp only [List.flatMap_cons, List.flatMap_nil, List.getElem?_cons_succ, List.getElem?_cons_zero, Option.toList_some, List.cons_append, List.nil_append]
    repeat (go_big_quiet_step (fail))
    refine wpQuiet_nil ?_
    refine Mxt.wpTL_fork ?_ ?_
    · refine Mxt.wpTL_op (by rfl) (fun K hK => ?_)
      refine step_append_new (w0 := U) (by rfl) _ _ (by rfl) E_it (Step.drew (Step.alloc Step.refl _)) (by rfl) (hfA) (by rfl) (hrA) hone1 hm1 (by omega) ?_
      intro D1 c1 W1 hown1 hS1 hgrow1 hat1
      refine hK _ _ (fun hlt => Mix.cl hS1) ?_
      clear hK K
      simp only [Act.put, List.setIfInBounds_toArray, List.set_cons_succ, List.set_cons_zero, Nat.zero_add]
      simp only [Nat.zero_add] at hown1
      refine Mxt.wpTL_reads ?_
      simp only [List.flatMap_cons, List.flatMap_nil, List.getElem?_cons_succ, List.getElem?_cons_zero, Option.toList_some, List.cons_append, List.nil_append]
      repeat (go_big_quiet_step (fail))
      refine wpQuiet_nil ?_
      refine Mxt.wpTL_op (by rfl) (fun K hK => ?_)
      go_simp
      refine hK _ _ (fun hlt => Mix.cl (Step.alloc hS1 _)) ?_
      clear hK K
      refine Mxt.wpTL_op (by rfl) (fun K hK => ?_)
      refine step_append_new (w0 := U) (by rfl) _ _ (by rfl) E_it (Step.alloc hS1 _) (by rfl) (hown1.alloc _) (by rfl) (reads_new W1 #[.int .i64 1, .int .u64 0, .int .i64 st, .int .i64 dst, .int .i64 0, .bool true, .int .i64 0] 57 7 1 rfl) hone2 hm2 (by omega) ?_
      intro D2 c2 W2 hown2 hS2 hgrow2 hat2
      refine hK _ _ (fun hlt => Mix.cl hS2) ?_
      clear hK K
      simp only [Act.put, List.setIfInBounds_toArray, List.set_cons_succ, List.set_cons_zero, Nat.zero_add]
      refine Mxt.wpTL_reads ?_
      simp only [List.flatMap_cons, List.flatMap_nil, List.getElem?_cons_succ, List.getElem?_cons_zero, Option.toList_some, List.cons_append, List.nil_append]
      repeat (go_big_quiet_step (fail))
      refine wpQuiet_nil ?_
      refine Mxt.wpTL_leaf ?_
      go_wp2_with fail
      go_ret2
      have hll : (l ++ [(⟨1, 0, st, dst, 0, true, 0⟩ : It)]).length = l.length + 1 := by simp
      refine SAny.after SV.out ⟨l ++ [(⟨1, 0, st, dst, 0, true, 0⟩ : It)], by rw [hll]; exact Nat.le_refl _, ?_⟩
      have h9 : Fst W2 I' g (l ++ [(⟨1, 0, st, dst, 0, true, 0⟩ : It)]) fs most := by
        refine ⟨?_, by rw [HFR.out]; exact HKY.out⟩
        rw [HVL.out, HLA.out]
        exact HFS.out.quiet hS2
      have hd := sdo (A := A) (I' := I') (c' := c2) (A' := D2) HU.out h9 (hS2.mono fun _ _ e => e.elim) (by rw [hll, its_append]; rw [List.nil_append] at hown2; exact own_base hown2 (fun _ _ => Nat.zero_le _)) (fun k hk => .inr (Nat.le_trans HU.out.1.size (own_ge hown2 k (by rwa [ownBlock_slice])))) HG2.out
      rw [hll] at hd
      exact hd
    · refine Mxt.wpTL_reads ?_
      simp only [List.flatMap_cons, List.flatMap_nil, List.getElem?_cons_succ, List.getElem?_cons_zero, Option.toList_some, List.cons_append, List.nil_append]
      repeat (go_big_quiet_step (fail))
      refine wpQuiet_nil ?_
      refine Mxt.wpTL_op (by rfl) (fun K hK => ?_)
      go_simp
      refine hK _ _ (fun hlt => Mix.cl (Step.drew (Step.alloc (Step.alloc Step.refl _) _))) ?_
      clear hK K
      refine Mxt.wpTL_op (by rfl) (fun K hK => ?_)
      refine step_append_new (w0 := U) (by rfl) _ _ (by rfl) E_it (Step.drew (Step.alloc (Step.alloc Step.refl _) _)) (by rfl) (hfB) (by rfl) (hrB) hone1 hm1 (by omega) ?_
      intro D1 c1 W1 hown1 hS1 hgrow1 hat1
      refine hK _ _ (fun hlt => Mix.cl hS1) ?_
      clear hK K
      simp only [Act.put, List.setIfInBounds_toArray, List.set_cons_succ, List.set_cons_zero, Nat.zero_add]
      simp only [Nat.zero_add] at hown1
      have hx1 := hxB.step (Step.grown (F := fun k => blkOf (some (⟨U.heap.size, 0, none⟩ : Addr)) = some k) Step.refl hgrow1 (fun k hk => .inl hk)) (fun k hk e => by simp [blkOf] at e; omega)
      refine Mxt.wpTL_op (by rfl) (fun K hK => ?_)
      refine step_append_new (w0 := U) (by rfl) _ _ (by rfl) E_it (hS1) (by rfl) (hown1) (by rfl) (hx1) hone2 hm2 (by omega) ?_
      intro D2 c2 W2 hown2 hS2 hgrow2 hat2
      refine hK _ _ (fun hlt => Mix.cl hS2) ?_
      clear hK K
      simp only [Act.put, List.setIfInBounds_toArray, List.set_cons_succ, List.set_cons_zero, Nat.zero_add]
      refine Mxt.wpTL_reads ?_
      simp only [List.flatMap_cons, List.flatMap_nil, List.getElem?_cons_succ, List.getElem?_cons_zero, Option.toList_some, List.cons_append, List.nil_append]
      repeat (go_big_quiet_step (fail))
      refine wpQuiet_nil ?_
      refine Mxt.wpTL_leaf ?_
      go_wp2_with fail
      go_ret2
      have hll : (l ++ [(⟨1, 0, st, dst, 0, true, 0⟩ : It)]).length = l.length + 1 := by simp
      refine SAny.after SV.out ⟨l ++ [(⟨1, 0, st, dst, 0, true, 0⟩ : It)], by rw [hll]; exact Nat.le_refl _, ?_⟩
      have h9 : Fst W2 I' g (l ++ [(⟨1, 0, st, dst, 0, true, 0⟩ : It)]) fs most := by
        refine ⟨?_, by rw [HFR.out]; exact HKY.out⟩
        rw [HVL.out, HLA.out]
        exact HFS.out.quiet hS2
      have hd := sdo (A := A) (I' := I') (c' := c2) (A' := D2) HU.out h9 (hS2.mono fun _ _ e => e.elim) (by rw [hll, its_append]; rw [List.nil_append] at hown2; exact own_base hown2 (fun _ _ => Nat.zero_le _)) (fun k hk => .inr (Nat.le_trans HU.out.1.size (own_ge hown2 k (by rwa [ownBlock_slice])))) HG2.out
      rw [hll] at hd
      exact hd
  · refine Mxt.wpTL_reads ?_
    simp only [List.flatMap_cons, List.flatMap_nil, List.getElem?_cons_succ, List.getElem?_cons_zero, Option.toList_some, List.cons_append, List.nil_append]
    repeat (go_big_quiet_step (fail))
    refine wpQuiet_nil ?_
    refine Mxt.wpTL_op (by rfl) (fun K hK => ?_)
    go_simp
    refine hK _ _ (fun hlt => Mix.cl (Step.drew (Step.alloc Step.refl _))) ?_
    clear hK K
    refine Mxt.wpTL_reads ?_
    simp only [List.flatMap_cons, List.flatMap_nil, List.getElem?_cons_succ, List.getElem?_cons_zero, Option.toList_some, List.cons_append, List.nil_append]
    repeat (go_big_quiet_step (fail))
    refine wpQuiet_nil ?_
    refine Mxt.wpTL_op (by rfl) (fun K hK => ?_)
    go_simp
    refine hK _ _ (fun hlt => Mix.cl (Step.drew (Step.alloc (Step.alloc Step.refl _) _))) ?_
    clear hK K
    refine Mxt.wpTL_op (by rfl) (fun K hK => ?_)
    refine step_append_new (w0 := U) (by rfl) _ _ (by rfl) E_it (Step.drew (Step.alloc (Step.alloc Step.refl _) _)) (by rfl) (hfC) (by rfl) (hrC) hone1 hm1 (by omega) ?_
    intro D1 c1 W1 hown1 hS1 hgrow1 hat1
    refine hK _ _ (fun hlt => Mix.cl hS1) ?_
    clear hK K
    simp only [Act.put, List.setIfInBounds_toArray, List.set_cons_succ, List.set_cons_zero, Nat.zero_add]
    simp only [Nat.zero_add] at hown1
    have hx1 := hxC.step (Step.grown (F := fun k => blkOf (some (⟨U.heap.size + 1, 0, none⟩ : Addr)) = some k) Step.refl hgrow1 (fun k hk => .inl hk)) (fun k hk e => by simp [blkOf] at e; omega)
    refine Mxt.wpTL_op (by rfl) (fun K hK => ?_)
    refine step_append_new (w0 := U) (by rfl) _ _ (by rfl) E_it (hS1) (by rfl) (hown1) (by rfl) (hx1) hone2 hm2 (by omega) ?_
    intro D2 c2 W2 hown2 hS2 hgrow2 hat2
    refine hK _ _ (fun hlt => Mix.cl hS2) ?_
    clear hK K
    simp only [Act.put, List.setIfInBounds_toArray, List.set_cons_succ, List.set_cons_zero, Nat.zero_add]
    refine Mxt.wpTL_reads ?_
    simp only [List.flatMap_cons, List.flatMap_nil, List.getElem?_cons_succ, List.getElem?_cons_zero, Option.toList_some, List.cons_append, List.nil_append]
    repeat (go_big_quiet_step (fail))
    refine wpQuiet_nil ?_
    refine Mxt.wpTL_leaf ?_
    go_wp2_with fail
    go_ret2
    have hll : (l ++ [(⟨1, 0, st, dst, 0, true, 0⟩ : It)]).length = l.length + 1 := by simp
    refine SAny.after SV.out ⟨l ++ [(⟨1, 0, st, dst, 0, true, 0⟩ : It)], by rw [hll]; exact Nat.le_refl _, ?_⟩
    have h9 : Fst W2 I' g (l ++ [(⟨1, 0, st, dst, 0, true, 0⟩ : It)]) fs most := by
      refine ⟨?_, by rw [HFR.out]; exact HKY.out⟩
      rw [HVL.out, HLA.out]
      exact HFS.out.quiet hS2
    have hd := sdo (A := A) (I' := I') (c' := c2) (A' := D2) HU.out h9 (hS2.mono fun _ _ e => e.elim) (by rw [hll, its_append]; rw [List.nil_append] at hown2; exact own_base hown2 (fun _ _ => Nat.zero_le _)) (fun k hk => .inr (Nat.le_trans HU.out.1.size (own_ge hown2 k (by rwa [ownBlock_slice])))) HG2.out
    rw [hll] at hd
    exact hd
set_option maxRecDepth 100000 in
set_option maxHeartbeats 3200000 in
theorem do_open_blk (k : Nat) (hk1 : k ≤ 1) (hk : bits BinOp.and IntKind.i64 n 1 = (k : Int)) (hb : (bits BinOp.and IntKind.i64 n 2 == 2) = false) (H : Sta w I g A c l most) (hz : l.length ≤ 1000) :
    Calls Try.prog 7 #[.pointer (some ⟨g, 0, none⟩), .slice A l.length c, .agg #[.int .i64 5, .int .i64 n, .int .u64 v, .int .i64 st, .int .i64 dst], .int .i64 most] w (SAny w I g A (l.length + 1) most) := by
  have s1 : Step (fun _ => False) w (w.alloc (.cells #[.int .i64 5, .int .i64 n, .int .u64 v, .int .i64 st, .int .i64 dst] 30)) := Step.refl.alloc _
  have B1 := Lib.hid (Blk.new w 30 #[.int .i64 5, .int .i64 n, .int .u64 v, .int .i64 st, .int .i64 dst])
  have HV := Lib.hid (r_values (c := c) (Reads.of_own (H.quiet s1).own) (by omega))
  have S1 := Lib.hid s1
  have HH := Lib.hid H
  clear s1 H
  go_enter Try.func7, Try.ntmps7
  go_wp2_with fail
  refine HV.out.mono ?_
  rintro e V ⟨Dv, cv, rfl, hvo, hs⟩
  obtain ⟨N, hN⟩ : ∃ N, N = w.heap.size := ⟨_, rfl⟩
  rw [← hN] at B1 ⊢
  have HN : Hid (w.heap.size ≤ N) := by rw [hN]; exact Nat.le_refl _
  have B2 := Lib.hid (B1.out.step hs id)
  have SV := Lib.hid (S1.out.trans hs)
  have HVO := Lib.hid hvo
  have HI := HH.out.inI
  have HNI : Hid (¬ I N) := fun e => by have := HI N e; omega
  have HX := Lib.hid (HH.out.quiet SV.out)
  clear hs hvo B1 S1 HV HI hN
  have y0 := B2.out.cell 0
  have y1 := B2.out.cell 1
  have y2 := B2.out.cell 2
  have y3 := B2.out.cell 3
  have y4 := B2.out.cell 4
  simp at y0 y1 y2 y3 y4
  obtain ⟨fs, hf⟩ := HX.out.fst
  have hvl := vals_len (l := l)
  have hll := labs_len (l := l)
  have HFAR := Lib.hid (hf.far HX.out.own)
  have HKY := Lib.hid hf.2
  have HO := Lib.hid HX.out.own
  have HG := Lib.hid HX.out.good
  have HVL : Hid (valsI (l ++ [(⟨1, 0, st, dst, (k : Int), false, 0⟩ : It)]) = valsI l) := by unfold Hid; rw [valsI_append]; exact List.append_nil _
  have HLA : Hid (labsI 0 (l ++ [(⟨1, 0, st, dst, (k : Int), false, 0⟩ : It)]) = labsI 0 l ++ [⟨st, dst, (k : Int), (valsI l).length, false⟩]) := by unfold Hid; rw [labsI_append, Nat.zero_add]; rfl
  have HFR : Hid (frsI 0 0 (l ++ [(⟨1, 0, st, dst, (k : Int), false, 0⟩ : It)]) = frsI 0 0 l) := by unfold Hid; rw [frsI_append]; exact List.append_nil _
  have HG2 : Hid (Good (l ++ [(⟨1, 0, st, dst, (k : Int), false, 0⟩ : It)])) := good_app HG.out (fun x hx => by rw [List.mem_singleton.1 hx]; exact ⟨.inr (.inl rfl), by constructor <;> simp <;> omega, by constructor <;> simp⟩)
  have N1 := Lib.hid (Blk.new V 57 #[.int .i64 1, .int .u64 0, .int .i64 st, .int .i64 dst, .int .i64 (k : Int), .bool false, .int .i64 0])
  have S1 : Hid (Step (fun _ => False) V (V.alloc (.cells #[.int .i64 1, .int .u64 0, .int .i64 st, .int .i64 dst, .int .i64 (k : Int), .bool false, .int .i64 0] 57))) := Step.refl.alloc _
  have hop := fs_open st dst (k : Int) 0 false (hf.1.quiet S1.out) (by omega) (by omega)
  have HOP := Lib.hid hop
  have HMI : Hid (¬ I V.heap.size) := fun e => by have := HX.out.inI _ e; omega
  have hNV : N < V.heap.size := B2.out.lt
  have hNV2 : N ≠ V.heap.size := by omega
  clear hf hop HVO
  go_upto_region 25 with fail
  obtain ⟨Z, hZ⟩ : ∃ Z, Z = V.alloc (.cells #[.int .i64 1, .int .u64 0, .int .i64 st, .int .i64 dst, .int .i64 (k : Int), .bool false, .int .i64 0] 57) := ⟨_, rfl⟩
  obtain ⟨M, hM⟩ : ∃ M, M = V.heap.size := ⟨_, rfl⟩
  rw [← hZ, ← hM]
  rw [← hZ] at N1 S1 HOP
  rw [← hM] at N1 HMI
  have B3 := Lib.hid (B2.out.step S1.out id)
  clear hZ hM y0 y1 y2 y3 y4 B2
  have y3 := B3.out.cell 3
  have y4 := B3.out.cell 4
  have m4 := N1.out.cell 4
  have m5 := N1.out.cell 5
  simp at y3 y4 m4 m5
  go_wp2_with fail
  refine HOP.out.mono ?_
  rintro e U ⟨rfl, I', h', u⟩
  have N2 := N1.out.step u.1 HMI.out
  have HU := Lib.hid (u.after S1.out)
  have HFS := Lib.hid h'
  have HO1 := Lib.hid (own_step HO.out HU.out.1 (fun k hk => HFAR.out k (by rwa [ownBlock_slice] at hk)))
  have hsrc := Reads.of_own HO1.out
  have x0 := N2.cell 0
  have x1 := N2.cell 1
  have x2 := N2.cell 2
  have x3 := N2.cell 3
  have x4 := N2.cell 4
  have x5 := N2.cell 5
  have x6 := N2.cell 6
  simp at x0 x1 x2 x3 x4 x5 x6
  have d0 := cls_cell (F := fun _ => False) (w0 := U) x0 id
  have d1 := cls_cell (F := fun _ => False) (w0 := U) x1 id
  have d2 := cls_cell (F := fun _ => False) (w0 := U) x2 id
  have d3 := cls_cell (F := fun _ => False) (w0 := U) x3 id
  have d4 := cls_cell (F := fun _ => False) (w0 := U) x4 id
  have d5 := cls_cell (F := fun _ => False) (w0 := U) x5 id
  have d6 := cls_cell (F := fun _ => False) (w0 := U) x6 id
  have hone1 := its_one l
  have hone2 : ∀ u ∈ (#[.int .i64 1, .int .u64 0, .int .i64 st, .int .i64 dst, .int .i64 (k : Int), .bool false, .int .i64 0] : Array Value).toList, u.oneCell' = true := it_one (⟨1, 0, st, dst, (k : Int), false, 0⟩ : It)
  have hm1 : 0 + l.length ≤ maxLen := by unfold maxLen; omega
  have hm2 : l.length + 1 ≤ maxLen := by unfold maxLen; omega
  clear u h' y3 y4 m4 m5 x0 x1 x2 x3 x4 x5 x6 N2 N1 S1 HOP hb
  go_wp2_with fail
  have hz1 : (U.alloc (.cells #[.int .i64 1, .int .u64 0, .int .i64 st, .int .i64 dst, .int .i64 (k : Int), .bool false, .int .i64 0] 57)).heap.size = U.heap.size + 1 := by simp
  have hz0 : (U.alloc (.cells #[] 57)).heap.size = U.heap.size + 1 := by simp
  have hfA : (U.alloc (.cells #[] 57)).drew.ownsRow U.heap.size 57 7 (.slice (some ⟨U.heap.size, 0, none⟩) 0 0) 0 [] := own_drew (own_fresh 7 (Nat.le_refl _))
  have hrA := hsrc.step (F := fun _ => False) (Step.drew (Step.alloc Step.refl (.cells #[] 57))) (fun _ _ => id)
  have hfB : ((U.alloc (.cells #[] 57)).alloc (.cells #[.int .i64 1, .int .u64 0, .int .i64 st, .int .i64 dst, .int .i64 (k : Int), .bool false, .int .i64 0] 57)).drew.ownsRow U.heap.size 57 7 (.slice (some ⟨U.heap.size, 0, none⟩) 0 0) 0 [] := own_drew ((own_fresh 7 (Nat.le_refl _)).alloc _)
  have hrB := hsrc.step (F := fun _ => False) (Step.drew (Step.alloc (Step.alloc Step.refl (.cells #[] 57)) (.cells #[.int .i64 1, .int .u64 0, .int .i64 st, .int .i64 dst, .int .i64 (k : Int), .bool false, .int .i64 0] 57))) (fun _ _ => id)
  have hxB := (reads_new (U.alloc (.cells #[] 57)) #[.int .i64 1, .int .u64 0, .int .i64 st, .int .i64 dst, .int .i64 (k : Int), .bool false, .int .i64 0] 57 7 1 rfl).drew
  have hfC : ((U.alloc (.cells #[.int .i64 1, .int .u64 0, .int .i64 st, .int .i64 dst, .int .i64 (k : Int), .bool false, .int .i64 0] 57)).alloc (.cells #[] 57)).drew.ownsRow U.heap.size 57 7 (.slice (some ⟨U.heap.size + 1, 0, none⟩) 0 0) 0 [] := by
    have := own_drew (own_fresh (w := U.alloc (.cells #[.int .i64 1, .int .u64 0, .int .i64 st, .int .i64 dst, .int .i64 (k : Int), .bool false, .int .i64 0] 57)) (e := 57) (base := U.heap.size) 7 (by omega))
    rwa [hz1] at this
  have hrC := hsrc.step (F := fun _ => False) (Step.drew (Step.alloc (Step.alloc Step.refl (.cells #[.int .i64 1, .int .u64 0, .int .i64 st, .int .i64 dst, .int .i64 (k : Int), .bool false, .int .i64 0] 57)) (.cells #[] 57))) (fun _ _ => id)
  have hxC := ((reads_new U #[.int .i64 1, .int .u64 0, .int .i64 st, .int .i64 dst, .int .i64 (k : Int), .bool false, .int .i64 0] 57 7 1 rfl).step (F := fun _ => False) (Step.alloc Step.refl (.cells #[] 57)) (fun _ _ => id)).drew
  rw [hz0] at hxB
  refine Mxt.wp_region_tree [0, 2, 4, 5] [0, 2, 4, 5] (.fork (.op 0 (.reads [1] (.fork (.op 2 (.reads [3] (.op 4 (.op 5 (.reads [6, 7] .leaf))))) (.reads [3] (.op 4 (.op 2 (.op 5 (.reads [6, 7] .leaf)))))))) (.reads [3] (.op 4 (.reads [1] (.op 0 (.op 2 (.op 5 (.reads [6, 7] .leaf)))))))) (Step (fun _ => False) U) (by kernel_rfl) (by kernel_rfl) Step.refl.drew (fun hcls => ?_)
  refine Mxt.wpTL_fork ?_ ?_
  · refine Mxt.wpTL_op (by rfl) (fun K hK => ?_)
    go_simp
    refine hK _ _ (fun hlt => Mix.cl (Step.drew (Step.alloc Step.refl _))) ?_
    clear hK K
    refine Mxt.wpTL_reads ?_
    simp only [List.flatMap_cons, List.flatMap_nil, List.getElem?_cons_succ, List.getElem?_cons_zero, Option.toList_some, List.cons_append, List.nil_append]
    repeat (go_big_quiet_step (fail))
    refine wpQuiet_nil ?_
    refine Mxt.wpTL_fork ?_ ?_
    · refine Mxt.wpTL_op (by rfl) (fun K hK => ?_)
      refine step_append_new (w0 := U) (by rfl) _ _ (by rfl) E_it (Step.drew (Step.alloc Step.refl _)) (by rfl) (hfA) (by rfl) (hrA) hone1 hm1 (by omega) ?_
      intro D1 c1 W1 hown1 hS1 hgrow1 hat1
      refine hK _ _ (fun hlt => Mix.cl hS1) ?_
      clear hK K
      simp only [Act.put, List.setIfInBounds_toArray, List.set_cons_succ, List.set_cons_zero, Nat.zero_add]
      simp only [Nat.zero_add] at hown1
      refine Mxt.wpTL_reads ?_
      simp only [List.flatMap_cons, List.flatMap_nil, List.getElem?_cons_succ, List.getElem?_cons_zero, Option.toList_some, List.cons_append, List.nil_append]
      repeat (go_big_quiet_step (fail))
      refine wpQuiet_nil ?_
      refine Mxt.wpTL_op (by rfl) (fun K hK => ?_)
      go_simp
      refine hK _ _ (fun hlt => Mix.cl (Step.alloc hS1 _)) ?_
      clear hK K
      refine Mxt.wpTL_op (by rfl) (fun K hK => ?_)
      refine step_append_new (w0 := U) (by rfl) _ _ (by rfl) E_it (Step.alloc hS1 _) (by rfl) (hown1.alloc _) (by rfl) (reads_new W1 #[.int .i64 1, .int .u64 0, .int .i64 st, .int .i64 dst, .int .i64 (k : Int), .bool false, .int .i64 0] 57 7 1 rfl) hone2 hm2 (by omega) ?_
      intro D2 c2 W2 hown2 hS2 hgrow2 hat2
      refine hK _ _ (fun hlt => Mix.cl hS2) ?_
      clear hK K
      simp only [Act.put, List.setIfInBounds_toArray, List.set_cons_succ, List.set_cons_zero, Nat.zero_add]
      refine Mxt.wpTL_reads ?_
      simp only [List.flatMap_cons, List.flatMap_nil, List.getElem?_cons_succ, List.getElem?_cons_zero, Option.toList_some, List.cons_append, List.nil_append]
      repeat (go_big_quiet_step (fail))
      refine wpQuiet_nil ?_
      refine Mxt.wpTL_leaf ?_
      go_wp2_with fail
      go_ret2
      have hll : (l ++ [(⟨1, 0, st, dst, (k : Int), false, 0⟩ : It)]).length = l.length + 1 := by simp
      refine SAny.after SV.out ⟨l ++ [(⟨1, 0, st, dst, (k : Int), false, 0⟩ : It)], by rw [hll]; exact Nat.le_refl _, ?_⟩
      have h9 : Fst W2 I' g (l ++ [(⟨1, 0, st, dst, (k : Int), false, 0⟩ : It)]) fs most := by
        refine ⟨?_, by rw [HFR.out]; exact HKY.out⟩
        rw [HVL.out, HLA.out]
        exact HFS.out.quiet hS2
      have hd := sdo (A := A) (I' := I') (c' := c2) (A' := D2) HU.out h9 (hS2.mono fun _ _ e => e.elim) (by rw [hll, its_append]; rw [List.nil_append] at hown2; exact own_base hown2 (fun _ _ => Nat.zero_le _)) (fun k hk => .inr (Nat.le_trans HU.out.1.size (own_ge hown2 k (by rwa [ownBlock_slice])))) HG2.out
      rw [hll] at hd
      exact hd
    · refine Mxt.wpTL_reads ?_
      simp only [List.flatMap_cons, List.flatMap_nil, List.getElem?_cons_succ, List.getElem?_cons_zero, Option.toList_some, List.cons_append, List.nil_append]
      repeat (go_big_quiet_step (fail))
      refine wpQuiet_nil ?_
      refine Mxt.wpTL_op (by rfl) (fun K hK => ?_)
      go_simp
      refine hK _ _ (fun hlt => Mix.cl (Step.drew (Step.alloc (Step.alloc Step.refl _) _))) ?_
      clear hK K
      refine Mxt.wpTL_op (by rfl) (fun K hK => ?_)
      refine step_append_new (w0 := U) (by rfl) _ _ (by rfl) E_it (Step.drew (Step.alloc (Step.alloc Step.refl _) _)) (by rfl) (hfB) (by rfl) (hrB) hone1 hm1 (by omega) ?_
      intro D1 c1 W1 hown1 hS1 hgrow1 hat1
      refine hK _ _ (fun hlt => Mix.cl hS1) ?_
      clear hK K
      simp only [Act.put, List.setIfInBounds_toArray, List.set_cons_succ, List.set_cons_zero, Nat.zero_add]
      simp only [Nat.zero_add] at hown1
      have hx1 := hxB.step (Step.grown (F := fun k => blkOf (some (⟨U.heap.size, 0, none⟩ : Addr)) = some k) Step.refl hgrow1 (fun k hk => .inl hk)) (fun k hk e => by simp [blkOf] at e; omega)
      refine Mxt.wpTL_op (by rfl) (fun K hK => ?_)
      refine step_append_new (w0 := U) (by rfl) _ _ (by rfl) E_it (hS1) (by rfl) (hown1) (by rfl) (hx1) hone2 hm2 (by omega) ?_
      intro D2 c2 W2 hown2 hS2 hgrow2 hat2
      refine hK _ _ (fun hlt => Mix.cl hS2) ?_
      clear hK K
      simp only [Act.put, List.setIfInBounds_toArray, List.set_cons_succ, List.set_cons_zero, Nat.zero_add]
      refine Mxt.wpTL_reads ?_
      simp only [List.flatMap_cons, List.flatMap_nil, List.getElem?_cons_succ, List.getElem?_cons_zero, Option.toList_some, List.cons_append, List.nil_append]
      repeat (go_big_quiet_step (fail))
      refine wpQuiet_nil ?_
      refine Mxt.wpTL_leaf ?_
      go_wp2_with fail
      go_ret2
      have hll : (l ++ [(⟨1, 0, st, dst, (k : Int), false, 0⟩ : It)]).length = l.length + 1 := by simp
      refine SAny.after SV.out ⟨l ++ [(⟨1, 0, st, dst, (k : Int), false, 0⟩ : It)], by rw [hll]; exact Nat.le_refl _, ?_⟩
      have h9 : Fst W2 I' g (l ++ [(⟨1, 0, st, dst, (k : Int), false, 0⟩ : It)]) fs most := by
        refine ⟨?_, by rw [HFR.out]; exact HKY.out⟩
        rw [HVL.out, HLA.out]
        exact HFS.out.quiet hS2
      have hd := sdo (A := A) (I' := I') (c' := c2) (A' := D2) HU.out h9 (hS2.mono fun _ _ e => e.elim) (by rw [hll, its_append]; rw [List.nil_append] at hown2; exact own_base hown2 (fun _ _ => Nat.zero_le _)) (fun k hk => .inr (Nat.le_trans HU.out.1.size (own_ge hown2 k (by rwa [ownBlock_slice])))) HG2.out
      rw [hll] at hd
      exact hd
  · refine Mxt.wpTL_reads ?_
    simp only [List.flatMap_cons, List.flatMap_nil, List.getElem?_cons_succ, List.getElem?_cons_zero, Option.toList_some, List.cons_append, List.nil_append]
    repeat (go_big_quiet_step (fail))
    refine wpQuiet_nil ?_
    refine Mxt.wpTL_op (by rfl) (fun K hK => ?_)
    go_simp
    refine hK _ _ (fun hlt => Mix.cl (Step.drew (Step.alloc Step.refl _))) ?_
    clear hK K
    refine Mxt.wpTL_reads ?_
    simp only [List.flatMap_cons, List.flatMap_nil, List.getElem?_cons_succ, List.getElem?_cons_zero, Option.toList_some, List.cons_append, List.nil_append]
    repeat (go_big_quiet_step (fail))
    refine wpQuiet_nil ?_
    refine Mxt.wpTL_op (by rfl) (fun K hK => ?_)
    go_simp
    refine hK _ _ (fun hlt => Mix.cl (Step.drew (Step.alloc (Step.alloc Step.refl _) _))) ?_
    clear hK K
    refine Mxt.wpTL_op (by rfl) (fun K hK => ?_)
    refine step_append_new (w0 := U) (by rfl) _ _ (by rfl) E_it (Step.drew (Step.alloc (Step.alloc Step.refl _) _)) (by rfl) (hfC) (by rfl) (hrC) hone1 hm1 (by omega) ?_
    intro D1 c1 W1 hown1 hS1 hgrow1 hat1
    refine hK _ _ (fun hlt => Mix.cl hS1) ?_
    clear hK K
    simp only [Act.put, List.setIfInBounds_toArray, List.set_cons_succ, List.set_cons_zero, Nat.zero_add]
    simp only [Nat.zero_add] at hown1
    have hx1 := hxC.step (Step.grown (F := fun k => blkOf (some (⟨U.heap.size + 1, 0, none⟩ : Addr)) = some k) Step.refl hgrow1 (fun k hk => .inl hk)) (fun k hk e => by simp [blkOf] at e; omega)
    refine Mxt.wpTL_op (by rfl) (fun K hK => ?_)
    refine step_append_new (w0 := U) (by rfl) _ _ (by rfl) E_it (hS1) (by rfl) (hown1) (by rfl) (hx1) hone2 hm2 (by omega) ?_
    intro D2 c2 W2 hown2 hS2 hgrow2 hat2
    refine hK _ _ (fun hlt => Mix.cl hS2) ?_
    clear hK K
    simp only [Act.put, List.setIfInBounds_toArray, List.set_cons_succ, List.set_cons_zero, Nat.zero_add]
    refine Mxt.wpTL_reads ?_
    simp only [List.flatMap_cons, List.flatMap_nil, List.getElem?_cons_succ, List.getElem?_cons_zero, Option.toList_some, List.cons_append, List.nil_append]
    repeat (go_big_quiet_step (fail))
    refine wpQuiet_nil ?_
    refine Mxt.wpTL_leaf ?_
    go_wp2_with fail
    go_ret2
    have hll : (l ++ [(⟨1, 0, st, dst, (k : Int), false, 0⟩ : It)]).length = l.length + 1 := by simp
    refine SAny.after SV.out ⟨l ++ [(⟨1, 0, st, dst, (k : Int), false, 0⟩ : It)], by rw [hll]; exact Nat.le_refl _, ?_⟩
    have h9 : Fst W2 I' g (l ++ [(⟨1, 0, st, dst, (k : Int), false, 0⟩ : It)]) fs most := by
      refine ⟨?_, by rw [HFR.out]; exact HKY.out⟩
      rw [HVL.out, HLA.out]
      exact HFS.out.quiet hS2
    have hd := sdo (A := A) (I' := I') (c' := c2) (A' := D2) HU.out h9 (hS2.mono fun _ _ e => e.elim) (by rw [hll, its_append]; rw [List.nil_append] at hown2; exact own_base hown2 (fun _ _ => Nat.zero_le _)) (fun k hk => .inr (Nat.le_trans HU.out.1.size (own_ge hown2 k (by rwa [ownBlock_slice])))) HG2.out
    rw [hll] at hd
    exact hd
set_option maxRecDepth 100000 in
set_option maxHeartbeats 3200000 in
theorem do_shut_none (h0 : blockI l 0 < 0) (hf0 : ∃ fs, Fst w I g l fs most ∧ ownN (labsI 0 l) fs = 0) (H : Sta w I g A c l most) (hz : l.length ≤ 1000) :
    Calls Try.prog 7 #[.pointer (some ⟨g, 0, none⟩), .slice A l.length c, .agg #[.int .i64 6, .int .i64 n, .int .u64 v, .int .i64 st, .int .i64 dst], .int .i64 most] w (SAny w I g A (l.length + 1) most) := by
  have s1 : Step (fun _ => False) w (w.alloc (.cells #[.int .i64 6, .int .i64 n, .int .u64 v, .int .i64 st, .int .i64 dst] 30)) := Step.refl.alloc _
  have B1 := Lib.hid (Blk.new w 30 #[.int .i64 6, .int .i64 n, .int .u64 v, .int .i64 st, .int .i64 dst])
  have HV := Lib.hid (r_values (c := c) (Reads.of_own (H.quiet s1).own) (by omega))
  have S1 := Lib.hid s1
  have HH := Lib.hid H
  clear s1 H
  go_enter Try.func7, Try.ntmps7
  go_wp2_with fail
  refine HV.out.mono ?_
  rintro e V ⟨Dv, cv, rfl, hvo, hs⟩
  obtain ⟨N, hN⟩ : ∃ N, N = w.heap.size := ⟨_, rfl⟩
  rw [← hN] at B1 ⊢
  have HN : Hid (w.heap.size ≤ N) := by rw [hN]; exact Nat.le_refl _
  have B2 := Lib.hid (B1.out.step hs id)
  have SV := Lib.hid (S1.out.trans hs)
  have HVO := Lib.hid hvo
  have HI := HH.out.inI
  have HNI : Hid (¬ I N) := fun e => by have := HI N e; omega
  have HX := Lib.hid (HH.out.quiet SV.out)
  clear hs hvo B1 S1 HV HI hN
  have y0 := B2.out.cell 0
  have y1 := B2.out.cell 1
  have y2 := B2.out.cell 2
  have y3 := B2.out.cell 3
  have y4 := B2.out.cell 4
  simp at y0 y1 y2 y3 y4
  obtain ⟨fs, hf, hown⟩ := hf0
  have hfv := hf.quiet SV.out
  have hfl := hf.len HX.out.good
  have hll := labs_len (l := l)
  have HP := Lib.hid (fs_shut_none hfv.1 hfv.okf (by omega) (by omega) hown)
  have HB : Hid (∀ W, Step (fun _ => False) V W → Calls Try.prog 27 #[.slice A l.length c, .int .u64 0] W fun e w' => e = .returned (.int .i64 (blockI l 0)) ∧ w' = W) := fun W hW => r_block 0 ((Reads.of_own HX.out.own).step hW (fun _ _ => id)) (by omega) (by decide)
  have g0 : decide (blockI l 0 < 0) = true := decide_eq_true h0
  generalize blockI l 0 = at_ at *
  clear hf hfv hown h0 HVO
  go_wp2_with fail
  refine HP.out.mono ?_
  rintro e U ⟨rfl, hs⟩
  have HS := Lib.hid (hs.alloc (.cells #[.int .i64 0, .int .i64 0, .int .i64 0, .int .i64 0, .bool false] 60))
  have N1 := Blk.new U 60 #[.int .i64 0, .int .i64 0, .int .i64 0, .int .i64 0, .bool false]
  have d0 := cls_cell (F := fun _ => False) ((N1.cell 0).trans (show _ = some (Value.int .i64 0) from rfl)) id
  have d1 := cls_cell (F := fun _ => False) ((N1.cell 1).trans (show _ = some (Value.int .i64 0) from rfl)) id
  have d2 := cls_cell (F := fun _ => False) ((N1.cell 2).trans (show _ = some (Value.int .i64 0) from rfl)) id
  have d3 := cls_cell (F := fun _ => False) ((N1.cell 3).trans (show _ = some (Value.int .i64 0) from rfl)) id
  have d4 := cls_cell (F := fun _ => False) ((N1.cell 4).trans (show _ = some (Value.bool false) from rfl)) id
  clear hs y0 y1 y2 y3 y4 N1
  go_wp2_with fail
  refine (HB.out _ HS.out).mono ?_
  rintro e w' ⟨rfl, hw⟩
  obtain rfl := hw.symm
  clear hw
  go_wp2_with fail
  refine Mix.wp_region_mix [] [] (Step (fun _ => False) (U.alloc (.cells #[.int .i64 0, .int .i64 0, .int .i64 0, .int .i64 0, .bool false] 60))) (by kernel_rfl) (by kernel_rfl) Step.refl.drew (fun hcls => ?_)
  refine Mix.wpL_reads 10 (by rfl) ?_
  simp only [List.take_succ_cons, List.drop_succ_cons, List.take_zero, List.drop_zero]
  repeat (go_big_quiet_step (fail))
  refine wpQuiet_nil ?_
  refine Mix.wpL_end ?_
  go_wp2_with fail
  go_ret2
  exact ⟨l, Nat.le_succ _, sdo_same HH.out (SV.out.trans HS.out.drew)⟩
set_option maxRecDepth 100000 in
set_option maxHeartbeats 3200000 in
theorem do_shut (a : Nat) (ha : a < l.length) (e1 : blockI l 0 = a) (e2 : l[a].k = 1) (hc1 : cntI 1 (l.drop (a + 1)) = 0) (hno : ∀ x ∈ l.drop a, x.k ≠ 2) (hf0 : ∃ fs, Fst w I g l fs most ∧ 0 < ownN (labsI 0 l) fs) (H : Sta w I g A c l most) (hz : l.length ≤ 1000) :
    Calls Try.prog 7 #[.pointer (some ⟨g, 0, none⟩), .slice A l.length c, .agg #[.int .i64 6, .int .i64 n, .int .u64 v, .int .i64 st, .int .i64 dst], .int .i64 most] w (SAny w I g A (l.length + 1) most) := by
  have s1 : Step (fun _ => False) w (w.alloc (.cells #[.int .i64 6, .int .i64 n, .int .u64 v, .int .i64 st, .int .i64 dst] 30)) := Step.refl.alloc _
  have B1 := Lib.hid (Blk.new w 30 #[.int .i64 6, .int .i64 n, .int .u64 v, .int .i64 st, .int .i64 dst])
  have HV := Lib.hid (r_values (c := c) (Reads.of_own (H.quiet s1).own) (by omega))
  have S1 := Lib.hid s1
  have HH := Lib.hid H
  clear s1 H
  go_enter Try.func7, Try.ntmps7
  go_wp2_with fail
  refine HV.out.mono ?_
  rintro e V ⟨Dv, cv, rfl, hvo, hs⟩
  obtain ⟨N, hN⟩ : ∃ N, N = w.heap.size := ⟨_, rfl⟩
  rw [← hN] at B1 ⊢
  have HN : Hid (w.heap.size ≤ N) := by rw [hN]; exact Nat.le_refl _
  have B2 := Lib.hid (B1.out.step hs id)
  have SV := Lib.hid (S1.out.trans hs)
  have HVO := Lib.hid hvo
  have HI := HH.out.inI
  have HNI : Hid (¬ I N) := fun e => by have := HI N e; omega
  have HX := Lib.hid (HH.out.quiet SV.out)
  clear hs hvo B1 S1 HV HI hN
  have y0 := B2.out.cell 0
  have y1 := B2.out.cell 1
  have y2 := B2.out.cell 2
  have y3 := B2.out.cell 3
  have y4 := B2.out.cell 4
  simp at y0 y1 y2 y3 y4
  obtain ⟨fs, hf, hown⟩ := hf0
  have hfv := hf.quiet SV.out
  obtain ⟨q1, q2, q3, q4, q5, q6⟩ := lab_split ha e2 hc1 hno HX.out.good
  have hfl := hf.len HX.out.good
  have hll := labs_len (l := l)
  have hvl := vals_len (l := l)
  have hcap := own_cap HX.out.own
  have hav : AllV (l.drop (a + 1)) := fun x hx => by
    have h1 := (good_drop HX.out.good (a + 1) x hx).1
    have h2 : x ∈ l.drop a := by rw [drop_cons ha]; exact List.mem_cons_of_mem _ hx
    have h3 := hno x h2
    have h4 : x.k ≠ 1 := fun e => by
      rw [cntI, List.countP_eq_zero] at hc1
      exact absurd (hc1 x hx) (by simp [e])
    omega
  have hlab : labsI 0 l = labsI 0 (l.take a) ++ [⟨l[a].st, l[a].dst, l[a].ar, (valsI (l.take a)).length, l[a].lp⟩] := by
    have h5 : labsI 0 l = (labsI 0 l).take (cntI 1 (l.take a) + 1) := (List.take_of_length_le (by omega)).symm
    rw [← q4] at h5
    rw [h5, labsI_append, labsI, if_neg (by omega), if_pos e2, Nat.zero_add]
    rfl
  have hpl : (labsI 0 (l.take a)).length ≤ 1000 := by rw [labsI_length]; have := cntI_le 1 (l.take a); rw [List.length_take] at this; omega
  have hsp := hfv.1
  have hok := hfv.okf
  rw [hlab] at hsp hok hown
  have HP := Lib.hid (fs_shut _ _ hsp hok (by omega) (by omega) (by omega))
  have HWV : Hid (valsI (l.take a ++ l.drop (a + 1)) = valsI l) := by unfold Hid; rw [valsI_append, vals_split (l := l) a, drop_cons ha, valsI_cons (by omega)]
  have HWL : Hid (labsI 0 (l.take a ++ l.drop (a + 1)) = labsI 0 (l.take a)) := by unfold Hid; rw [labsI_append, hav.labs, List.append_nil]
  have HWF : Hid (frsI 0 0 (l.take a ++ l.drop (a + 1)) = frsI 0 0 l) := by unfold Hid; rw [frsI_append, hav.frs, List.append_nil, q5]
  have HWG : Hid (Good (l.take a ++ l.drop (a + 1))) := good_app (good_take HX.out.good a) (good_drop HX.out.good _)
  have HKY := Lib.hid hf.2
  have HFAR := Lib.hid (hfv.far HX.out.own)
  have HO := Lib.hid HX.out.own
  have HB : Hid (∀ W, Reads W (fun k => blkOf A = some k) 7 A l.length (its l) → Calls Try.prog 27 #[.slice A l.length c, .int .u64 0] W fun e w' => e = .returned (.int .i64 (a : Int)) ∧ w' = W) := fun W hW => by
    have := r_block (c := c) 0 hW (by omega) (by decide)
    rwa [e1] at this
  have HWO0 : Hid (∀ W, Reads W (fun k => blkOf A = some k) 7 A l.length (its l) → Calls Try.prog 28 #[.slice A l.length c, .int .i64 (a : Int)] W fun e w' => ∃ D c', e = .returned (.slice D (l.take a ++ l.drop (a + 1)).length c') ∧ ItNew W D c' (l.take a ++ l.drop (a + 1)) w') := fun W hW => r_without a hW (by omega) ha hcap
  have HVA0 : Hid (∀ W, Reads W (fun k => blkOf A = some k) 7 A l.length (its l) → Calls Try.prog 14 #[.slice A a c] W fun e w' => ∃ D c', e = .returned (.slice D (valsI (l.take a)).length c') ∧ w'.ownsRow W.heap.size 28 1 (.slice D (valsI (l.take a)).length c') (valsI (l.take a)).length (u64s (valsI (l.take a))) ∧ Step (fun _ => False) W w') := fun W hW => by
    have hTL : (l.take a).length = a := by rw [List.length_take]; omega
    have h6 := hW.take (k := a) (by omega)
    rw [← its_take] at h6
    have := r_values (c := c) (l := l.take a) (w := W) (A := A) (by rw [hTL]; exact h6) (by omega)
    rwa [hTL] at this
  have HC : Hid (∀ W, Reads W (fun k => blkOf A = some k) 7 A l.length (its l) → ∃ b off, A = some ⟨b, off, none⟩ ∧ b < W.heap.size ∧ W.cell? ⟨b, off + a * 7 + 2, none⟩ = some (.int .i64 l[a].st) ∧ W.cell? ⟨b, off + a * 7 + 3, none⟩ = some (.int .i64 l[a].dst)) := fun W hW => by
    obtain ⟨b, off, e4, _, hb, hc⟩ := reads_cells It.cells 7 (by decide) It.len hW (k := a) ha
    exact ⟨b, off, e4, hb, hc 2 _ rfl, hc 3 _ rfl⟩
  have g0 : decide ((a : Int) < 0) = false := decide_eq_false (by omega)
  have i0 : (0 : Int) ≤ (a : Int) := by omega
  have i1 : (a : Int) < (l.length : Int) := by omega
  have i2 : (a : Int) ≤ (c : Int) := by omega
  have sl := slice_hn E_it A l.length c .i64 (a : Int) a rfl (by omega)
  generalize l[a].st = zst at *
  generalize l[a].dst = zdst at *
  generalize l[a].ar = zar at *
  generalize l[a].lp = zlp at *
  generalize hvn : (valsI (l.take a)).length = zn at *
  have HLW : Hid ((l.take a ++ l.drop (a + 1)).length ≤ l.length + 1) := by unfold Hid; rw [List.length_append, List.length_take, List.length_drop]; omega
  generalize l.take a ++ l.drop (a + 1) = lw at *
  clear hf hfv hown hsp hok hlab hpl q1 q2 q3 q4 q5 q6 hav e1 e2 hc1 hno HVO hvn
  go_wp2_with fail
  refine HP.out.mono ?_
  rintro e U ⟨rfl, I', h', u⟩
  have HFS := Lib.hid h'
  have HU := Lib.hid u
  have HO1 := Lib.hid (own_step HO.out u.1 (fun k hk => HFAR.out k (by rwa [ownBlock_slice] at hk)))
  have HS : Hid (Step (fun _ => False) U (U.alloc (.cells #[.int .i64 zst, .int .i64 zdst, .int .i64 zar, .int .i64 (zn : Int), .bool zlp] 60))) := Step.refl.alloc _
  have N1 := Lib.hid (Blk.new U 60 #[.int .i64 zst, .int .i64 zdst, .int .i64 zar, .int .i64 (zn : Int), .bool zlp])
  clear u h' y0 y1 y2 y3 y4
  go_upto_region 29 with fail
  obtain ⟨U2, hU2⟩ : ∃ U2, U2 = U.alloc (.cells #[.int .i64 zst, .int .i64 zdst, .int .i64 zar, .int .i64 (zn : Int), .bool zlp] 60) := ⟨_, rfl⟩
  obtain ⟨M, hM⟩ : ∃ M, M = U.heap.size := ⟨_, rfl⟩
  rw [← hU2, ← hM]
  rw [← hU2] at N1 HS
  rw [← hM] at N1
  clear hU2 hM
  have HRD := Lib.hid (((Reads.of_own HO1.out).mono (S' := fun k => blkOf A = some k) (fun k _ hk => by rwa [ownBlock_slice] at hk)).step HS.out (fun _ _ => id))
  have HWO : Hid (∀ W, Step (fun _ => False) U2 W → _) := fun W hW => HWO0.out W (HRD.out.step hW (fun _ _ => id))
  have HVA : Hid (∀ W, Step (fun _ => False) U2 W → _) := fun W hW => HVA0.out W (HRD.out.step hW (fun _ _ => id))
  obtain ⟨b, off, rfl, hbl, c2, c3⟩ := HC.out U2 HRD.out
  have x0 := N1.out.cell 0
  have x1 := N1.out.cell 1
  have x3 := N1.out.cell 3
  simp at x0 x1 x3
  have d0 := cls_cell (F := fun _ => False) (w0 := U2) x0 id
  have d1 := cls_cell (F := fun _ => False) (w0 := U2) x1 id
  have d3 := cls_cell (F := fun _ => False) (w0 := U2) x3 id
  have d6 := cls_cell (F := fun _ => False) (w0 := U2) c2 id
  have d7 := cls_cell (F := fun _ => False) (w0 := U2) c3 id
  clear HWO0 HVA0 HC x0 x1 x3 c2 c3
  go_wp2_with fail
  refine (HB.out U2 HRD.out).mono ?_
  rintro e w' ⟨rfl, hw⟩
  obtain rfl := hw.symm
  clear hw HB
  go_wp2_with fail
  refine Mxt.wp_region_tree [2, 30] [2, 30] (.reads [0, 1] (.op 2 (.reads [3, 4, 5, 6, 7, 8, 9, 10, 11, 12, 13, 14, 15, 16, 17, 18, 19, 20, 21, 22, 23, 24, 25, 26, 27, 28, 29] (.op 30 (.reads [31, 32, 33, 34, 35] .leaf))))) (Step (fun _ => False) U2) (by kernel_rfl) (by kernel_rfl) Step.refl.drew (fun hcls => ?_)
  refine Mxt.wpTL_reads ?_
  simp only [List.flatMap_cons, List.flatMap_nil, List.getElem?_cons_succ, List.getElem?_cons_zero, Option.toList_some, List.cons_append, List.nil_append]
  repeat (go_big_quiet_step (fail))
  refine wpQuiet_nil ?_
  refine Mxt.wpTL_op (by rfl) (fun K hK => ?_)
  go_simp
  refine (HWO.out _ Step.refl.drew).mono ?_
  rintro e W1 ⟨D1, c1, rfl, hn1⟩
  have hw1 := (Step.refl.drew).trans hn1.2
  refine hK _ _ (fun hlt => Mix.cl hw1) ?_
  clear hK K
  refine Mxt.wpTL_reads ?_
  simp only [List.flatMap_cons, List.flatMap_nil, List.getElem?_cons_succ, List.getElem?_cons_zero, Option.toList_some, List.cons_append, List.nil_append]
  repeat (go_big_quiet_step (fail))
  refine wpQuiet_nil ?_
  refine Mxt.wpTL_op (by rfl) (fun K hK => ?_)
  go_simp
  refine (HVA.out _ hw1).mono ?_
  rintro e W2 ⟨D2, c2, rfl, -, hn2⟩
  have hw2 := (hw1).trans hn2
  refine hK _ _ (fun hlt => Mix.cl hw2) ?_
  clear hK K
  refine Mxt.wpTL_reads ?_
  simp only [List.flatMap_cons, List.flatMap_nil, List.getElem?_cons_succ, List.getElem?_cons_zero, Option.toList_some, List.cons_append, List.nil_append]
  repeat (go_big_quiet_step (fail))
  refine wpQuiet_nil ?_
  refine Mxt.wpTL_leaf ?_
  have HST := Lib.hid hw2
  have HNW := Lib.hid (own_step hn1.1 hn2 (fun _ _ => id))
  have HGE := Lib.hid (Nat.le_refl U2.heap.size)
  clear d0 d1 d3 d6 d7
  go_wp2_with fail
  go_ret2
  refine SAny.after SV.out ⟨lw, HLW.out, ?_⟩
  refine sdo (I' := I') HU.out ⟨by rw [HWV.out, HWL.out]; exact HFS.out.quiet (HS.out.trans HST.out), by rw [HWF.out]; exact HKY.out⟩ ((HS.out.trans HST.out).mono fun _ _ e => e.elim) (own_base HNW.out (fun _ _ => Nat.zero_le _)) (fun k hk => .inr (Nat.le_trans HU.out.1.size (Nat.le_trans HS.out.size (Nat.le_trans HGE.out (own_ge HNW.out k (by rwa [ownBlock_slice])))))) HWG.out
end
end Go.Proofs.Ytokchoocelmdoaa
