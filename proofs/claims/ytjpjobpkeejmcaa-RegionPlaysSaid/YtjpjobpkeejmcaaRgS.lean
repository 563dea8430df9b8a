/-
  region: the reference's Add (printed by gen_rgs.py).
-/
import Derived.Test.YtjpjobpkeejmcaaRgR
import Derived.Test.YtjpjobpkeejmcaaMxt
set_option linter.unusedVariables false
set_option linter.unusedSimpArgs false
namespace Go.Proofs.Ytjpjobpkeejmcaa
open Go.RowKit

set_option maxRecDepth 100000 in
set_option maxHeartbeats 12800000 in
theorem radd_walk (w : World) (A : Option Addr) (n c a ln : Nat) (o : Int) (l : List Pc) (S : Nat → Prop) (hN : n = l.length) (hr : Reads w S 3 A n (pcs l)) (hn : n ≤ 1000000) (hc : n ≤ c) :
    Calls Try.prog 21 #[.slice A n c, .agg #[.int .i64 (a : Int), .int .i64 (ln : Int), .int .i64 o]] w fun e w' => ∃ D' c', e = .returned (.slice D' (n + 1) c') ∧
      w'.ownsRow w.heap.size 54 3 (.slice D' (n + 1) c') (n + 1) (pcs (addP ⟨a, ln, o⟩ l)) ∧ Step (fun _ => False) w w' := by
  have HR := Lib.hid hr
  have HN := Lib.hid hN
  have hq1 : posP a l ≤ n := by rw [hN]; exact posP_le a l
  have HADD : Hid (pcs (addP ⟨a, ln, o⟩ l) = (pcs l).take (posP a l * 3) ++ #[Value.int .i64 (a : Int), .int .i64 (ln : Int), .int .i64 o].toList ++ (pcs l).drop (posP a l * 3)) := by
    rw [Hid, addP, pcs_append, pcs_take l _ (posP_le a l), List.append_assoc]
    congr 1
    rw [← pcs_drop l _ (posP_le a l)]
    rfl
  have HQ1 : Hid (∀ j (h : j < l.length), j < posP a l → l[j].at_ < a) := fun j h h2 => posP_lt a l j h h2
  have HQ2 : Hid (∀ j (h : j < l.length), j = posP a l → ¬ l[j].at_ < a) := fun j h h2 => by subst h2; exact posP_at a l h
  generalize posP a l = q at hq1 HADD HQ1 HQ2
  clear hr hN
  go_enter Try.func21, Try.ntmps21
  go_wp2_with fail
  have HB : Hid (Blk (w.alloc (.cells #[Value.int .i64 (a : Int), .int .i64 (ln : Int), .int .i64 o] 54)) w.heap.size 54 #[Value.int .i64 (a : Int), .int .i64 (ln : Int), .int .i64 o]) := Blk.new w _ _
  have HV0 : Hid (Step (fun _ => False) w (w.alloc (.cells #[Value.int .i64 (a : Int), .int .i64 (ln : Int), .int .i64 o] 54))) := Step.alloc Step.refl _
  have hzw : (w.alloc (.cells #[Value.int .i64 (a : Int), .int .i64 (ln : Int), .int .i64 o] 54)).heap.size = w.heap.size + 1 := by simp
  go_loopw [5, 6] (fun ov iv wr => ∃ (j cq : Nat) (D0 : Option Addr), j ≤ q ∧ ov = .slice D0 j cq ∧ iv = .int .i64 (j : Int) ∧ Hid (wr.ownsRow (w.heap.size + 1) 54 3 (.slice D0 j cq) j ((pcs l).take (j * 3))) ∧ Hid (Step (fun _ => False) (w.alloc (.cells #[Value.int .i64 (a : Int), .int .i64 (ln : Int), .int .i64 o] 54)) wr)) (fun _ iv _ => n + 1 - (intOf iv).toNat)
  case atStart => exact ⟨0, 0, none, by omega, rfl, rfl, (by rw [Nat.zero_mul, List.take_zero]; exact World.ownsRow_nil _ _ _ _), Step.refl⟩
  case round =>
    obtain ⟨j, cq, D0, hj, rfl, rfl, HO, HSj⟩ := hrel
    have hjn : j ≤ n := by omega
    have hb := HB.out.step HSj.out id
    have b0 := hb.cell 0
    have b1 := hb.cell 1
    have b2 := hb.cell 2
    simp at b0 b1 b2
    have HV := Lib.hid (HV0.out.trans HSj.out)
    have hw9 := HSj.out.size
    clear hb
    rw [hzw] at hw9
    by_cases hlt : j < n
    · have g1 : (j : Int) < (n : Int) := by omega
      have g1' : decide ((j : Int) < (n : Int)) = true := decide_eq_true g1
      have g1n : decide (j < n) = true := decide_eq_true hlt
      have i0 : (0 : Int) ≤ (j : Int) := by omega
      have hjl : j < l.length := by rw [← HN.out]; exact hlt
      obtain ⟨bk, off, rfl, _, hbl, hcc⟩ := reads_row Pc.cells 3 (by decide) Pc.three (HR.out.step HV.out (fun _ _ => id)) (k := j) hjl
      have HP1 : Hid (j < q → l[j].at_ < a) := HQ1.out j hjl
      have HP2 : Hid (j = q → ¬ l[j].at_ < a) := HQ2.out j hjl
      have HTK : Hid ((pcs l).take ((j + 1) * 3) = (pcs l).take (j * 3) ++ l[j].cells) := by
        rw [Hid, ← pcs_take l _ (by omega), ← pcs_take l _ (by omega), List.take_succ_eq_append_getElem hjl, pcs_append]
        simp [pcs]
      generalize l[j] = p at hcc HP1 HP2 HTK
      obtain ⟨pa, pl, po⟩ := p
      have k0 := hcc 0 _ rfl
      have k1 := hcc 1 _ rfl
      have k2 := hcc 2 _ rfl
      simp only [Nat.add_zero] at k0 k1 k2 HP1 HP2
      clear hcc
      by_cases hpa : pa < a
      · have hjq : j < q := by
          rcases Nat.lt_or_ge j q with h5 | h5
          · exact h5
          · exact absurd hpa (HP2.out (by omega))
        have g2 : (pa : Int) < (a : Int) := by omega
        have g2' : decide ((pa : Int) < (a : Int)) = true := decide_eq_true g2
        have g2n : decide (pa < a) = true := decide_eq_true hpa
        have hw1 := IntWalk.i64_in ((j : Int) + 1) (by omega)
        go_wp2_with fail
        go_quiet (fail)
        have hOa := (show World.ownsRow (wr.drewN nq) _ _ _ _ _ _ from HO.out).alloc (.cells #[.int .i64 (pa : Int), .int .i64 (pl : Int), .int .i64 po] 54)
        have hrn := reads_new (wr.drewN nq) #[Value.int .i64 (pa : Int), .int .i64 (pl : Int), .int .i64 po] 54 3 1 rfl
        have hone : ∀ u ∈ #[Value.int .i64 (pa : Int), .int .i64 (pl : Int), .int .i64 po].toList, u.oneCell' = true := by simp [Value.oneCell']
        have hm1 : j + 1 ≤ maxLen := by unfold maxLen; omega
        have hsz : w.heap.size + 1 ≤ ((wr.drewN nq).alloc (.cells #[.int .i64 (pa : Int), .int .i64 (pl : Int), .int .i64 po] 54)).heap.size := by simp; omega
        go_wp2_with (at_builtin; refine wpList_append_src _ rfl _ _ (by rfl) E_rp (by rfl) hOa (by rfl) hrn hone hm1 (by omega) hsz ?_; intro D3 c3 w3 hown hgrow hat)
        have hDge : ∀ x, blkOf D0 = some x → (w.alloc (.cells #[Value.int .i64 (a : Int), .int .i64 (ln : Int), .int .i64 o] 54)).heap.size ≤ x := fun x hx => by rw [hzw]; exact own_ge HO.out x (by rw [ownBlock_slice]; exact hx)
        have HT3 := Lib.hid (((HSj.out.drewN nq).alloc _).grown hgrow (fun x hx => .inr (hDge x hx)))
        have hus : (pcs l).take (j * 3) ++ #[Value.int .i64 (pa : Int), .int .i64 (pl : Int), .int .i64 po].toList = (pcs l).take ((j + 1) * 3) := by rw [HTK.out]; rfl
        rw [hus] at hown
        go_roundw
        case rel => exact ⟨j + 1, c3, D3, by omega, rfl, by rw [Int.natCast_add]; rfl, hown, HT3⟩
        case measure => simp [intOf]; omega
      · obtain rfl : j = q := by
          rcases Nat.lt_or_ge j q with h5 | h5
          · exact absurd (HP1.out h5) hpa
          · omega
        have g2 : ¬ (pa : Int) < (a : Int) := by omega
        have g2' : decide ((pa : Int) < (a : Int)) = false := decide_eq_false g2
        have g2n : decide (pa < a) = false := decide_eq_false hpa
        clear HP1 HP2 HTK
        go_wp2_with fail
        go_quiet (fail)
        clear g1 g1' g1n g2 g2' g2n hpa k1 k2
        have HO := Lib.hid ((show World.ownsRow (wr.drewN nq) _ _ _ _ _ _ from HO.out))
        have HSj := Lib.hid (HSj.out.drewN nq)
        have HV := Lib.hid (HV.out.drewN nq)
        have b0 : (wr.drewN nq).cell? _ = _ := b0
        have b1 : (wr.drewN nq).cell? _ = _ := b1
        have b2 : (wr.drewN nq).cell? _ = _ := b2
        have hw9 : w.heap.size + 1 ≤ (wr.drewN nq).heap.size := hw9
        generalize wr.drewN nq = wr at *
        obtain ⟨r, hr9⟩ : ∃ r, r = n - j := ⟨_, rfl⟩
        have hT : Reads wr S 3 (cutA (some ⟨bk, off, none⟩) c j 3) (n - j) ((pcs l).drop (j * 3)) := (HR.out.step (HV.out) (fun _ _ => id)).cut hjn hc
        rw [← hr9] at hT
        have hsl := slice_ln (P := Try.prog) E_rp (some ⟨bk, off, none⟩) n c .i64 (j : Int) j r (c - j) rfl hjn hr9 rfl
        have HR9 := Lib.hid hr9
        have hsrc := Reads.of_own HO.out
        have hone1 : ∀ u ∈ (pcs l).take (j * 3), u.oneCell' = true := fun u hu => pcs_one l u (List.mem_of_mem_take hu)
        have hone2 : ∀ u ∈ #[Value.int .i64 (a : Int), .int .i64 (ln : Int), .int .i64 o].toList, u.oneCell' = true := by simp [Value.oneCell']
        have hone3 : ∀ u ∈ (pcs l).drop (j * 3), u.oneCell' = true := fun u hu => pcs_one l u (List.mem_of_mem_drop hu)
        have hm1 : 0 + j ≤ maxLen := by unfold maxLen; omega
        have hm2 : j + 1 ≤ maxLen := by unfold maxLen; omega
        have hm3 : j + 1 + r ≤ maxLen := by unfold maxLen; omega
        have hr8 : r ≤ 1000000 := by omega
        have hws : w.heap.size ≤ wr.heap.size := HV.out.size
        have d0 := cls_cell (F := fun _ => False) b0 id
        have d1 := cls_cell (F := fun _ => False) b1 id
        have d2 := cls_cell (F := fun _ => False) b2 id
        have hcap := own_cap HO.out
        clear HQ1 HQ2 HR hr9
        go_wp2_with fail
        have hz1 : (wr.alloc (.cells #[Value.int .i64 (a : Int), .int .i64 (ln : Int), .int .i64 o] 54)).heap.size = wr.heap.size + 1 := by simp
        have hz0 : (wr.alloc (.cells #[] 54)).heap.size = wr.heap.size + 1 := by simp
        have hfA : (wr.alloc (.cells #[] 54)).drew.ownsRow wr.heap.size 54 3 (.slice (some ⟨wr.heap.size, 0, none⟩) 0 0) 0 [] := own_drew (own_fresh 3 (Nat.le_refl _))
        have hrA := hsrc.step (F := fun _ => False) (Step.drew (Step.alloc Step.refl (.cells #[] 54))) (fun _ _ => id)
        have hfB : ((wr.alloc (.cells #[] 54)).alloc (.cells #[Value.int .i64 (a : Int), .int .i64 (ln : Int), .int .i64 o] 54)).drew.ownsRow wr.heap.size 54 3 (.slice (some ⟨wr.heap.size, 0, none⟩) 0 0) 0 [] := own_drew ((own_fresh 3 (Nat.le_refl _)).alloc _)
        have hrB := hsrc.step (F := fun _ => False) (Step.drew (Step.alloc (Step.alloc Step.refl (.cells #[] 54)) (.cells #[Value.int .i64 (a : Int), .int .i64 (ln : Int), .int .i64 o] 54))) (fun _ _ => id)
        have hxB := (reads_new (wr.alloc (.cells #[] 54)) #[Value.int .i64 (a : Int), .int .i64 (ln : Int), .int .i64 o] 54 3 1 rfl).drew
        have hfC : ((wr.alloc (.cells #[Value.int .i64 (a : Int), .int .i64 (ln : Int), .int .i64 o] 54)).alloc (.cells #[] 54)).drew.ownsRow wr.heap.size 54 3 (.slice (some ⟨wr.heap.size + 1, 0, none⟩) 0 0) 0 [] := by
          have := own_drew (own_fresh (w := wr.alloc (.cells #[Value.int .i64 (a : Int), .int .i64 (ln : Int), .int .i64 o] 54)) (e := 54) (base := wr.heap.size) 3 (by omega))
          rwa [hz1] at this
        have hrC := hsrc.step (F := fun _ => False) (Step.drew (Step.alloc (Step.alloc Step.refl (.cells #[Value.int .i64 (a : Int), .int .i64 (ln : Int), .int .i64 o] 54)) (.cells #[] 54))) (fun _ _ => id)
        have hxC := ((reads_new wr #[Value.int .i64 (a : Int), .int .i64 (ln : Int), .int .i64 o] 54 3 1 rfl).step (F := fun _ => False) (Step.alloc Step.refl (.cells #[] 54)) (fun _ _ => id)).drew
        rw [hz0] at hxB
        refine Mxt.wp_region_tree [0, 2, 4, 5, 10] [0, 2, 4, 5, 10] (.fork (.op 0 (.reads [1] (.fork (.op 2 (.reads [3] (.op 4 (.op 5 (.reads [6, 7, 8, 9] (.op 10 (.reads [11] .leaf))))))) (.reads [3] (.op 4 (.op 2 (.op 5 (.reads [6, 7, 8, 9] (.op 10 (.reads [11] .leaf)))))))))) (.reads [3] (.op 4 (.reads [1] (.op 0 (.op 2 (.op 5 (.reads [6, 7, 8, 9] (.op 10 (.reads [11] .leaf)))))))))) (Step (fun _ => False) wr) (by kernel_rfl) (by kernel_rfl) Step.refl.drew (fun hcls => ?_)
        refine Mxt.wpTL_fork ?_ ?_
        · refine Mxt.wpTL_op (by rfl) (fun K hK => ?_)
          go_simp
          refine hK _ _ (fun hlt => Mix.cl (Step.drew (Step.alloc Step.refl _))) ?_
          clear hK K
          refine Mxt.wpTL_reads ?_
          simp only [List.flatMap_cons, List.flatMap_nil, List.getElem?_cons_succ, List.getElem?_cons_zero, Option.toList_some, List.cons_append, List.nil_append]
          repeat (go_big_quiet_step (fail))
          refine wpQuiet_nil ?_
          refine Mxt.wpTL_fork ?_ ?_
          · refine Mxt.wpTL_op (by rfl) (fun K hK => ?_)
            refine step_append_new (w0 := wr) (by rfl) _ _ (by rfl) E_rp (Step.drew (Step.alloc Step.refl _)) (by rfl) (hfA) (by rfl) (hrA) hone1 hm1 (by omega) ?_
            intro D1 c1 W1 hown1 hS1 hgrow1 hat1
            refine hK _ _ (fun hlt => Mix.cl hS1) ?_
            clear hK K
            simp only [Act.put, List.setIfInBounds_toArray, List.set_cons_succ, List.set_cons_zero, Nat.zero_add]
            simp only [Nat.zero_add] at hown1
            refine Mxt.wpTL_reads ?_
            simp only [List.flatMap_cons, List.flatMap_nil, List.getElem?_cons_succ, List.getElem?_cons_zero, Option.toList_some, List.cons_append, List.nil_append]
            repeat (go_big_quiet_step (fail))
            refine wpQuiet_nil ?_
            refine Mxt.wpTL_op (by rfl) (fun K hK => ?_)
            go_simp
            refine hK _ _ (fun hlt => Mix.cl (Step.alloc hS1 _)) ?_
            clear hK K
            refine Mxt.wpTL_op (by rfl) (fun K hK => ?_)
            refine step_append_new (w0 := wr) (by rfl) _ _ (by rfl) E_rp (Step.alloc hS1 _) (by rfl) (hown1.alloc _) (by rfl) (reads_new W1 #[Value.int .i64 (a : Int), .int .i64 (ln : Int), .int .i64 o] 54 3 1 rfl) hone2 hm2 (by omega) ?_
            intro D2 c2 W2 hown2 hS2 hgrow2 hat2
            refine hK _ _ (fun hlt => Mix.cl hS2) ?_
            clear hK K
            simp only [Act.put, List.setIfInBounds_toArray, List.set_cons_succ, List.set_cons_zero, Nat.zero_add]
            refine Mxt.wpTL_reads ?_
            simp only [List.flatMap_cons, List.flatMap_nil, List.getElem?_cons_succ, List.getElem?_cons_zero, Option.toList_some, List.cons_append, List.nil_append]
            repeat (go_big_quiet_step (fail))
            refine wpQuiet_nil ?_
            refine Mxt.wpTL_op (by rfl) (fun K hK => ?_)
            refine step_append_new (w0 := wr) (by rfl) _ _ (by rfl) E_rp (hS2) (by rfl) (hown2) (by rfl) (hT.step hS2 (fun _ _ => id)) hone3 hm3 (by omega) ?_
            intro D3 c3 W3 hown3 hS3 hgrow3 hat3
            refine hK _ _ (fun hlt => Mix.cl hS3) ?_
            clear hK K
            simp only [Act.put, List.setIfInBounds_toArray, List.set_cons_succ, List.set_cons_zero, Nat.zero_add]
            refine Mxt.wpTL_reads ?_
            simp only [List.flatMap_cons, List.flatMap_nil, List.getElem?_cons_succ, List.getElem?_cons_zero, Option.toList_some, List.cons_append, List.nil_append]
            repeat (go_big_quiet_step (fail))
            refine wpQuiet_nil ?_
            refine Mxt.wpTL_leaf ?_
            go_wp2_with fail
            go_ret
            have e0 := HR9.out
            have e1 : j + 1 + r = n + 1 := by omega
            rw [e1] at hown3 ⊢
            exact ⟨D3, c3, rfl, by rw [HADD.out]; exact own_base hown3 (fun k hk => by have := own_ge hown3 k hk; omega), HV.out.trans hS3⟩
          · refine Mxt.wpTL_reads ?_
            simp only [List.flatMap_cons, List.flatMap_nil, List.getElem?_cons_succ, List.getElem?_cons_zero, Option.toList_some, List.cons_append, List.nil_append]
            repeat (go_big_quiet_step (fail))
            refine wpQuiet_nil ?_
            refine Mxt.wpTL_op (by rfl) (fun K hK => ?_)
            go_simp
            refine hK _ _ (fun hlt => Mix.cl (Step.drew (Step.alloc (Step.alloc Step.refl _) _))) ?_
            clear hK K
            refine Mxt.wpTL_op (by rfl) (fun K hK => ?_)
            refine step_append_new (w0 := wr) (by rfl) _ _ (by rfl) E_rp (Step.drew (Step.alloc (Step.alloc Step.refl _) _)) (by rfl) (hfB) (by rfl) (hrB) hone1 hm1 (by omega) ?_
            intro D1 c1 W1 hown1 hS1 hgrow1 hat1
            refine hK _ _ (fun hlt => Mix.cl hS1) ?_
            clear hK K
            simp only [Act.put, List.setIfInBounds_toArray, List.set_cons_succ, List.set_cons_zero, Nat.zero_add]
            simp only [Nat.zero_add] at hown1
            have hx1 := hxB.step (Step.grown (F := fun k => blkOf (some (⟨wr.heap.size, 0, none⟩ : Addr)) = some k) Step.refl hgrow1 (fun k hk => .inl hk)) (fun k hk e => by simp [blkOf] at e; omega)
            refine Mxt.wpTL_op (by rfl) (fun K hK => ?_)
            refine step_append_new (w0 := wr) (by rfl) _ _ (by rfl) E_rp (hS1) (by rfl) (hown1) (by rfl) (hx1) hone2 hm2 (by omega) ?_
            intro D2 c2 W2 hown2 hS2 hgrow2 hat2
            refine hK _ _ (fun hlt => Mix.cl hS2) ?_
            clear hK K
            simp only [Act.put, List.setIfInBounds_toArray, List.set_cons_succ, List.set_cons_zero, Nat.zero_add]
            refine Mxt.wpTL_reads ?_
            simp only [List.flatMap_cons, List.flatMap_nil, List.getElem?_cons_succ, List.getElem?_cons_zero, Option.toList_some, List.cons_append, List.nil_append]
            repeat (go_big_quiet_step (fail))
            refine wpQuiet_nil ?_
            refine Mxt.wpTL_op (by rfl) (fun K hK => ?_)
            refine step_append_new (w0 := wr) (by rfl) _ _ (by rfl) E_rp (hS2) (by rfl) (hown2) (by rfl) (hT.step hS2 (fun _ _ => id)) hone3 hm3 (by omega) ?_
            intro D3 c3 W3 hown3 hS3 hgrow3 hat3
            refine hK _ _ (fun hlt => Mix.cl hS3) ?_
            clear hK K
            simp only [Act.put, List.setIfInBounds_toArray, List.set_cons_succ, List.set_cons_zero, Nat.zero_add]
            refine Mxt.wpTL_reads ?_
            simp only [List.flatMap_cons, List.flatMap_nil, List.getElem?_cons_succ, List.getElem?_cons_zero, Option.toList_some, List.cons_append, List.nil_append]
            repeat (go_big_quiet_step (fail))
            refine wpQuiet_nil ?_
            refine Mxt.wpTL_leaf ?_
            go_wp2_with fail
            go_ret
            have e0 := HR9.out
            have e1 : j + 1 + r = n + 1 := by omega
            rw [e1] at hown3 ⊢
            exact ⟨D3, c3, rfl, by rw [HADD.out]; exact own_base hown3 (fun k hk => by have := own_ge hown3 k hk; omega), HV.out.trans hS3⟩
        · refine Mxt.wpTL_reads ?_
          simp only [List.flatMap_cons, List.flatMap_nil, List.getElem?_cons_succ, List.getElem?_cons_zero, Option.toList_some, List.cons_append, List.nil_append]
          repeat (go_big_quiet_step (fail))
          refine wpQuiet_nil ?_
          refine Mxt.wpTL_op (by rfl) (fun K hK => ?_)
          go_simp
          refine hK _ _ (fun hlt => Mix.cl (Step.drew (Step.alloc Step.refl _))) ?_
          clear hK K
          refine Mxt.wpTL_reads ?_
          simp only [List.flatMap_cons, List.flatMap_nil, List.getElem?_cons_succ, List.getElem?_cons_zero, Option.toList_some, List.cons_append, List.nil_append]
          repeat (go_big_quiet_step (fail))
          refine wpQuiet_nil ?_
          refine Mxt.wpTL_op (by rfl) (fun K hK => ?_)
          go_simp
          refine hK _ _ (fun hlt => Mix.cl (Step.drew (Step.alloc (Step.alloc Step.refl _) _))) ?_
          clear hK K
          refine Mxt.wpTL_op (by rfl) (fun K hK => ?_)
          refine step_append_new (w0 := wr) (by rfl) _ _ (by rfl) E_rp (Step.drew (Step.alloc (Step.alloc Step.refl _) _)) (by rfl) (hfC) (by rfl) (hrC) hone1 hm1 (by omega) ?_
          intro D1 c1 W1 hown1 hS1 hgrow1 hat1
          refine hK _ _ (fun hlt => Mix.cl hS1) ?_
          clear hK K
          simp only [Act.put, List.setIfInBounds_toArray, List.set_cons_succ, List.set_cons_zero, Nat.zero_add]
          simp only [Nat.zero_add] at hown1
          have hx1 := hxC.step (Step.grown (F := fun k => blkOf (some (⟨wr.heap.size + 1, 0, none⟩ : Addr)) = some k) Step.refl hgrow1 (fun k hk => .inl hk)) (fun k hk e => by simp [blkOf] at e; omega)
          refine Mxt.wpTL_op (by rfl) (fun K hK => ?_)
          refine step_append_new (w0 := wr) (by rfl) _ _ (by rfl) E_rp (hS1) (by rfl) (hown1) (by rfl) (hx1) hone2 hm2 (by omega) ?_
          intro D2 c2 W2 hown2 hS2 hgrow2 hat2
          refine hK _ _ (fun hlt => Mix.cl hS2) ?_
          clear hK K
          simp only [Act.put, List.setIfInBounds_toArray, List.set_cons_succ, List.set_cons_zero, Nat.zero_add]
          refine Mxt.wpTL_reads ?_
          simp only [List.flatMap_cons, List.flatMap_nil, List.getElem?_cons_succ, List.getElem?_cons_zero, Option.toList_some, List.cons_append, List.nil_append]
          repeat (go_big_quiet_step (fail))
          refine wpQuiet_nil ?_
          refine Mxt.wpTL_op (by rfl) (fun K hK => ?_)
          refine step_append_new (w0 := wr) (by rfl) _ _ (by rfl) E_rp (hS2) (by rfl) (hown2) (by rfl) (hT.step hS2 (fun _ _ => id)) hone3 hm3 (by omega) ?_
          intro D3 c3 W3 hown3 hS3 hgrow3 hat3
          refine hK _ _ (fun hlt => Mix.cl hS3) ?_
          clear hK K
          simp only [Act.put, List.setIfInBounds_toArray, List.set_cons_succ, List.set_cons_zero, Nat.zero_add]
          refine Mxt.wpTL_reads ?_
          simp only [List.flatMap_cons, List.flatMap_nil, List.getElem?_cons_succ, List.getElem?_cons_zero, Option.toList_some, List.cons_append, List.nil_append]
          repeat (go_big_quiet_step (fail))
          refine wpQuiet_nil ?_
          refine Mxt.wpTL_leaf ?_
          go_wp2_with fail
          go_ret
          have e0 := HR9.out
          have e1 : j + 1 + r = n + 1 := by omega
          rw [e1] at hown3 ⊢
          exact ⟨D3, c3, rfl, by rw [HADD.out]; exact own_base hown3 (fun k hk => by have := own_ge hown3 k hk; omega), HV.out.trans hS3⟩
    · have hjq : j = q := by omega
      subst hjq
      have g1 : ¬ (j : Int) < (n : Int) := by omega
      have g1' : decide ((j : Int) < (n : Int)) = false := decide_eq_false g1
      have g1n : decide (j < n) = false := decide_eq_false hlt
      go_wp2_with fail
      go_quiet (fail)
      have HO := Lib.hid ((show World.ownsRow (wr.drewN nq) _ _ _ _ _ _ from HO.out))
      have HSj := Lib.hid (HSj.out.drewN nq)
      have HV := Lib.hid (HV.out.drewN nq)
      have b0 : (wr.drewN nq).cell? _ = _ := b0
      have b1 : (wr.drewN nq).cell? _ = _ := b1
      have b2 : (wr.drewN nq).cell? _ = _ := b2
      have hw9 : w.heap.size + 1 ≤ (wr.drewN nq).heap.size := hw9
      clear g1 g1' g1n hlt
      generalize wr.drewN nq = wr at *
      obtain ⟨r, hr9⟩ : ∃ r, r = n - j := ⟨_, rfl⟩
      have hT : Reads wr S 3 (cutA A c j 3) (n - j) ((pcs l).drop (j * 3)) := (HR.out.step (HV.out) (fun _ _ => id)).cut hjn hc
      rw [← hr9] at hT
      have hsl := slice_ln (P := Try.prog) E_rp A n c .i64 (j : Int) j r (c - j) rfl hjn hr9 rfl
      have HR9 := Lib.hid hr9
      have hsrc := Reads.of_own HO.out
      have hone1 : ∀ u ∈ (pcs l).take (j * 3), u.oneCell' = true := fun u hu => pcs_one l u (List.mem_of_mem_take hu)
      have hone2 : ∀ u ∈ #[Value.int .i64 (a : Int), .int .i64 (ln : Int), .int .i64 o].toList, u.oneCell' = true := by simp [Value.oneCell']
      have hone3 : ∀ u ∈ (pcs l).drop (j * 3), u.oneCell' = true := fun u hu => pcs_one l u (List.mem_of_mem_drop hu)
      have hm1 : 0 + j ≤ maxLen := by unfold maxLen; omega
      have hm2 : j + 1 ≤ maxLen := by unfold maxLen; omega
      have hm3 : j + 1 + r ≤ maxLen := by unfold maxLen; omega
      have hr8 : r ≤ 1000000 := by omega
      have hws : w.heap.size ≤ wr.heap.size := HV.out.size
      have d0 := cls_cell (F := fun _ => False) b0 id
      have d1 := cls_cell (F := fun _ => False) b1 id
      have d2 := cls_cell (F := fun _ => False) b2 id
      have hcap := own_cap HO.out
      clear HQ1 HQ2 HR hr9
      go_wp2_with fail
      have hz1 : (wr.alloc (.cells #[Value.int .i64 (a : Int), .int .i64 (ln : Int), .int .i64 o] 54)).heap.size = wr.heap.size + 1 := by simp
      have hz0 : (wr.alloc (.cells #[] 54)).heap.size = wr.heap.size + 1 := by simp
      have hfA : (wr.alloc (.cells #[] 54)).drew.ownsRow wr.heap.size 54 3 (.slice (some ⟨wr.heap.size, 0, none⟩) 0 0) 0 [] := own_drew (own_fresh 3 (Nat.le_refl _))
      have hrA := hsrc.step (F := fun _ => False) (Step.drew (Step.alloc Step.refl (.cells #[] 54))) (fun _ _ => id)
      have hfB : ((wr.alloc (.cells #[] 54)).alloc (.cells #[Value.int .i64 (a : Int), .int .i64 (ln : Int), .int .i64 o] 54)).drew.ownsRow wr.heap.size 54 3 (.slice (some ⟨wr.heap.size, 0, none⟩) 0 0) 0 [] := own_drew ((own_fresh 3 (Nat.le_refl _)).alloc _)
      have hrB := hsrc.step (F := fun _ => False) (Step.drew (Step.alloc (Step.alloc Step.refl (.cells #[] 54)) (.cells #[Value.int .i64 (a : Int), .int .i64 (ln : Int), .int .i64 o] 54))) (fun _ _ => id)
      have hxB := (reads_new (wr.alloc (.cells #[] 54)) #[Value.int .i64 (a : Int), .int .i64 (ln : Int), .int .i64 o] 54 3 1 rfl).drew
      have hfC : ((wr.alloc (.cells #[Value.int .i64 (a : Int), .int .i64 (ln : Int), .int .i64 o] 54)).alloc (.cells #[] 54)).drew.ownsRow wr.heap.size 54 3 (.slice (some ⟨wr.heap.size + 1, 0, none⟩) 0 0) 0 [] := by
        have := own_drew (own_fresh (w := wr.alloc (.cells #[Value.int .i64 (a : Int), .int .i64 (ln : Int), .int .i64 o] 54)) (e := 54) (base := wr.heap.size) 3 (by omega))
        rwa [hz1] at this
      have hrC := hsrc.step (F := fun _ => False) (Step.drew (Step.alloc (Step.alloc Step.refl (.cells #[Value.int .i64 (a : Int), .int .i64 (ln : Int), .int .i64 o] 54)) (.cells #[] 54))) (fun _ _ => id)
      have hxC := ((reads_new wr #[Value.int .i64 (a : Int), .int .i64 (ln : Int), .int .i64 o] 54 3 1 rfl).step (F := fun _ => False) (Step.alloc Step.refl (.cells #[] 54)) (fun _ _ => id)).drew
      rw [hz0] at hxB
      refine Mxt.wp_region_tree [0, 2, 4, 5, 10] [0, 2, 4, 5, 10] (.fork (.op 0 (.reads [1] (.fork (.op 2 (.reads [3] (.op 4 (.op 5 (.reads [6, 7, 8, 9] (.op 10 (.reads [11] .leaf))))))) (.reads [3] (.op 4 (.op 2 (.op 5 (.reads [6, 7, 8, 9] (.op 10 (.reads [11] .leaf)))))))))) (.reads [3] (.op 4 (.reads [1] (.op 0 (.op 2 (.op 5 (.reads [6, 7, 8, 9] (.op 10 (.reads [11] .leaf)))))))))) (Step (fun _ => False) wr) (by kernel_rfl) (by kernel_rfl) Step.refl.drew (fun hcls => ?_)
      refine Mxt.wpTL_fork ?_ ?_
      · refine Mxt.wpTL_op (by rfl) (fun K hK => ?_)
        go_simp
        refine hK _ _ (fun hlt => Mix.cl (Step.drew (Step.alloc Step.refl _))) ?_
        clear hK K
        refine Mxt.wpTL_reads ?_
        simp only [List.flatMap_cons, List.flatMap_nil, List.getElem?_cons_succ, List.getElem?_cons_zero, Option.toList_some, List.cons_append, List.nil_append]
        repeat (go_big_quiet_step (fail))
        refine wpQuiet_nil ?_
        refine Mxt.wpTL_fork ?_ ?_
        · refine Mxt.wpTL_op (by rfl) (fun K hK => ?_)
          refine step_append_new (w0 := wr) (by rfl) _ _ (by rfl) E_rp (Step.drew (Step.alloc Step.refl _)) (by rfl) (hfA) (by rfl) (hrA) hone1 hm1 (by omega) ?_
          intro D1 c1 W1 hown1 hS1 hgrow1 hat1
          refine hK _ _ (fun hlt => Mix.cl hS1) ?_
          clear hK K
          simp only [Act.put, List.setIfInBounds_toArray, List.set_cons_succ, List.set_cons_zero, Nat.zero_add]
          simp only [Nat.zero_add] at hown1
          refine Mxt.wpTL_reads ?_
          simp only [List.flatMap_cons, List.flatMap_nil, List.getElem?_cons_succ, List.getElem?_cons_zero, Option.toList_some, List.cons_append, List.nil_append]
          repeat (go_big_quiet_step (fail))
          refine wpQuiet_nil ?_
          refine Mxt.wpTL_op (by rfl) (fun K hK => ?_)
          go_simp
          refine hK _ _ (fun hlt => Mix.cl (Step.alloc hS1 _)) ?_
          clear hK K
          refine Mxt.wpTL_op (by rfl) (fun K hK => ?_)
          refine step_append_new (w0 := wr) (by rfl) _ _ (by rfl) E_rp (Step.alloc hS1 _) (by rfl) (hown1.alloc _) (by rfl) (reads_new W1 #[Value.int .i64 (a : Int), .int .i64 (ln : Int), .int .i64 o] 54 3 1 rfl) hone2 hm2 (by omega) ?_
          intro D2 c2 W2 hown2 hS2 hgrow2 hat2
          refine hK _ _ (fun hlt => Mix.cl hS2) ?_
          clear hK K
          simp only [Act.put, List.setIfInBounds_toArray, List.set_cons_succ, List.set_cons_zero, Nat.zero_add]
          refine Mxt.wpTL_reads ?_
          simp only [List.flatMap_cons, List.flatMap_nil, List.getElem?_cons_succ, List.getElem?_cons_zero, Option.toList_some, List.cons_append, List.nil_append]
          repeat (go_big_quiet_step (fail))
          refine wpQuiet_nil ?_
          refine Mxt.wpTL_op (by rfl) (fun K hK => ?_)
          refine step_append_new (w0 := wr) (by rfl) _ _ (by rfl) E_rp (hS2) (by rfl) (hown2) (by rfl) (hT.step hS2 (fun _ _ => id)) hone3 hm3 (by omega) ?_
          intro D3 c3 W3 hown3 hS3 hgrow3 hat3
          refine hK _ _ (fun hlt => Mix.cl hS3) ?_
          clear hK K
          simp only [Act.put, List.setIfInBounds_toArray, List.set_cons_succ, List.set_cons_zero, Nat.zero_add]
          refine Mxt.wpTL_reads ?_
          simp only [List.flatMap_cons, List.flatMap_nil, List.getElem?_cons_succ, List.getElem?_cons_zero, Option.toList_some, List.cons_append, List.nil_append]
          repeat (go_big_quiet_step (fail))
          refine wpQuiet_nil ?_
          refine Mxt.wpTL_leaf ?_
          go_wp2_with fail
          go_ret
          have e0 := HR9.out
          have e1 : j + 1 + r = n + 1 := by omega
          rw [e1] at hown3 ⊢
          exact ⟨D3, c3, rfl, by rw [HADD.out]; exact own_base hown3 (fun k hk => by have := own_ge hown3 k hk; omega), HV.out.trans hS3⟩
        · refine Mxt.wpTL_reads ?_
          simp only [List.flatMap_cons, List.flatMap_nil, List.getElem?_cons_succ, List.getElem?_cons_zero, Option.toList_some, List.cons_append, List.nil_append]
          repeat (go_big_quiet_step (fail))
          refine wpQuiet_nil ?_
          refine Mxt.wpTL_op (by rfl) (fun K hK => ?_)
          go_simp
          refine hK _ _ (fun hlt => Mix.cl (Step.drew (Step.alloc (Step.alloc Step.refl _) _))) ?_
          clear hK K
          refine Mxt.wpTL_op (by rfl) (fun K hK => ?_)
          refine step_append_new (w0 := wr) (by rfl) _ _ (by rfl) E_rp (Step.drew (Step.alloc (Step.alloc Step.refl _) _)) (by rfl) (hfB) (by rfl) (hrB) hone1 hm1 (by omega) ?_
          intro D1 c1 W1 hown1 hS1 hgrow1 hat1
          refine hK _ _ (fun hlt => Mix.cl hS1) ?_
          clear hK K
          simp only [Act.put, List.setIfInBounds_toArray, List.set_cons_succ, List.set_cons_zero, Nat.zero_add]
          simp only [Nat.zero_add] at hown1
          have hx1 := hxB.step (Step.grown (F := fun k => blkOf (some (⟨wr.heap.size, 0, none⟩ : Addr)) = some k) Step.refl hgrow1 (fun k hk => .inl hk)) (fun k hk e => by simp [blkOf] at e; omega)
          refine Mxt.wpTL_op (by rfl) (fun K hK => ?_)
          refine step_append_new (w0 := wr) (by rfl) _ _ (by rfl) E_rp (hS1) (by rfl) (hown1) (by rfl) (hx1) hone2 hm2 (by omega) ?_
          intro D2 c2 W2 hown2 hS2 hgrow2 hat2
          refine hK _ _ (fun hlt => Mix.cl hS2) ?_
          clear hK K
          simp only [Act.put, List.setIfInBounds_toArray, List.set_cons_succ, List.set_cons_zero, Nat.zero_add]
          refine Mxt.wpTL_reads ?_
          simp only [List.flatMap_cons, List.flatMap_nil, List.getElem?_cons_succ, List.getElem?_cons_zero, Option.toList_some, List.cons_append, List.nil_append]
          repeat (go_big_quiet_step (fail))
          refine wpQuiet_nil ?_
          refine Mxt.wpTL_op (by rfl) (fun K hK => ?_)
          refine step_append_new (w0 := wr) (by rfl) _ _ (by rfl) E_rp (hS2) (by rfl) (hown2) (by rfl) (hT.step hS2 (fun _ _ => id)) hone3 hm3 (by omega) ?_
          intro D3 c3 W3 hown3 hS3 hgrow3 hat3
          refine hK _ _ (fun hlt => Mix.cl hS3) ?_
          clear hK K
          simp only [Act.put, List.setIfInBounds_toArray, List.set_cons_succ, List.set_cons_zero, Nat.zero_add]
          refine Mxt.wpTL_reads ?_
          simp only [List.flatMap_cons, List.flatMap_nil, List.getElem?_cons_succ, List.getElem?_cons_zero, Option.toList_some, List.cons_append, List.nil_append]
          repeat (go_big_quiet_step (fail))
          refine wpQuiet_nil ?_
          refine Mxt.wpTL_leaf ?_
          go_wp2_with fail
          go_ret
          have e0 := HR9.out
          have e1 : j + 1 + r = n + 1 := by omega
          rw [e1] at hown3 ⊢
          exact ⟨D3, c3, rfl, by rw [HADD.out]; exact own_base hown3 (fun k hk => by have := own_ge hown3 k hk; omega), HV.out.trans hS3⟩
      · refine Mxt.wpTL_reads ?_
        simp only [List.flatMap_cons, List.flatMap_nil, List.getElem?_cons_succ, List.getElem?_cons_zero, Option.toList_some, List.cons_append, List.nil_append]
        repeat (go_big_quiet_step (fail))
        refine wpQuiet_nil ?_
        refine Mxt.wpTL_op (by rfl) (fun K hK => ?_)
        go_simp
        refine hK _ _ (fun hlt => Mix.cl (Step.drew (Step.alloc Step.refl _))) ?_
        clear hK K
        refine Mxt.wpTL_reads ?_
        simp only [List.flatMap_cons, List.flatMap_nil, List.getElem?_cons_succ, List.getElem?_cons_zero, Option.toList_some, List.cons_append, List.nil_append]
        repeat (go_big_quiet_step (fail))
        refine wpQuiet_nil ?_
        refine Mxt.wpTL_op (by rfl) (fun K hK => ?_)
        go_simp
        refine hK _ _ (fun hlt => Mix.cl (Step.drew (Step.alloc (Step.alloc Step.refl _) _))) ?_
        clear hK K
        refine Mxt.wpTL_op (by rfl) (fun K hK => ?_)
        refine step_append_new (w0 := wr) (by rfl) _ _ (by rfl) E_rp (Step.drew (Step.alloc (Step.alloc Step.refl _) _)) (by rfl) (hfC) (by rfl) (hrC) hone1 hm1 (by omega) ?_
        intro D1 c1 W1 hown1 hS1 hgrow1 hat1
        refine hK _ _ (fun hlt => Mix.cl hS1) ?_
        clear hK K
        simp only [Act.put, List.setIfInBounds_toArray, List.set_cons_succ, List.set_cons_zero, Nat.zero_add]
        simp only [Nat.zero_add] at hown1
        have hx1 := hxC.step (Step.grown (F := fun k => blkOf (some (⟨wr.heap.size + 1, 0, none⟩ : Addr)) = some k) Step.refl hgrow1 (fun k hk => .inl hk)) (fun k hk e => by simp [blkOf] at e; omega)
        refine Mxt.wpTL_op (by rfl) (fun K hK => ?_)
        refine step_append_new (w0 := wr) (by rfl) _ _ (by rfl) E_rp (hS1) (by rfl) (hown1) (by rfl) (hx1) hone2 hm2 (by omega) ?_
        intro D2 c2 W2 hown2 hS2 hgrow2 hat2
        refine hK _ _ (fun hlt => Mix.cl hS2) ?_
        clear hK K
        simp only [Act.put, List.setIfInBounds_toArray, List.set_cons_succ, List.set_cons_zero, Nat.zero_add]
        refine Mxt.wpTL_reads ?_
        simp only [List.flatMap_cons, List.flatMap_nil, List.getElem?_cons_succ, List.getElem?_cons_zero, Option.toList_some, List.cons_append, List.nil_append]
        repeat (go_big_quiet_step (fail))
        refine wpQuiet_nil ?_
        refine Mxt.wpTL_op (by rfl) (fun K hK => ?_)
        refine step_append_new (w0 := wr) (by rfl) _ _ (by rfl) E_rp (hS2) (by rfl) (hown2) (by rfl) (hT.step hS2 (fun _ _ => id)) hone3 hm3 (by omega) ?_
        intro D3 c3 W3 hown3 hS3 hgrow3 hat3
        refine hK _ _ (fun hlt => Mix.cl hS3) ?_
        clear hK K
        simp only [Act.put, List.setIfInBounds_toArray, List.set_cons_succ, List.set_cons_zero, Nat.zero_add]
        refine Mxt.wpTL_reads ?_
        simp only [List.flatMap_cons, List.flatMap_nil, List.getElem?_cons_succ, List.getElem?_cons_zero, Option.toList_some, List.cons_append, List.nil_append]
        repeat (go_big_quiet_step (fail))
        refine wpQuiet_nil ?_
        refine Mxt.wpTL_leaf ?_
        go_wp2_with fail
        go_ret
        have e0 := HR9.out
        have e1 : j + 1 + r = n + 1 := by omega
        rw [e1] at hown3 ⊢
        exact ⟨D3, c3, rfl, by rw [HADD.out]; exact own_base hown3 (fun k hk => by have := own_ge hown3 k hk; omega), HV.out.trans hS3⟩
end Go.Proofs.Ytjpjobpkeejmcaa
