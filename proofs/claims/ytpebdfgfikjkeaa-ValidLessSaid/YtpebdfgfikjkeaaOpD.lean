/-
  ops: Of, Check, Opens.
-/
import Derived.Test.YtpebdfgfikjkeaaOpC
set_option linter.unusedVariables false
set_option linter.unusedSimpArgs false
namespace Go.Proofs.Ytpebdfgfikjkeaa
open Go.RowKit

set_option maxRecDepth 100000 in
set_option maxHeartbeats 1600000 in
theorem control_out (w : World) (op : Nat) (h : op = 37 ∨ op = 38 ∨ op = 39) : Calls Try.prog 70 #[.int .u8 op] w fun e w' => e = .returned (infV Inf.no) ∧ Step (fun _ => False) w w' := by
  have hc1 := ctlC_one
  rcases h with rfl | rfl | rfl <;>
  · go_enter Try.func70, Try.ntmps70
    go_wp2_with first
      | (refine wpList_buildTo rfl 154 _ rfl _ rfl ctlC (by kernel_rfl) ?_)
      | (refine wpList_store_new rfl 154 _ _ rfl rfl ctlC rfl rfl (by simp) rfl rfl hc1 ?_)
    exact bodyPost_ret (v := infV Inf.no) (by simp [results, Try.results70, go_sem, infV]; (repeat' apply And.intro) <;> rfl) rfl ⟨rfl, (Step.refl.alloc _).alloc _⟩

set_option maxRecDepth 100000 in
set_option maxHeartbeats 1600000 in
theorem of_walk (w : World) (op : Nat) (h : op < 256) : Calls Try.prog 47 #[.int .u8 op] w fun e w' => e = .returned (infV (infF op)) ∧ Step (fun _ => False) w w' := by
  by_cases h1 : op < 40
  · have hc : ∀ w, Calls Try.prog 70 #[.int .u8 op] w fun e w' => e = .returned (infV (infF op)) ∧ Step (fun _ => False) w w' := fun w => by
      rw [infF, if_pos h1]
      by_cases h2 : op < 37
      · exact control_walk w op h2
      · have : ctlT[op]? = none := by
          have hl : ctlT.length = 37 := by kernel_rfl
          rw [List.getElem?_eq_none_iff]
          omega
        rw [this]
        exact control_out w op (by omega)
    have h3 : (op : Int) < 40 := by omega
    obtain ⟨j, hj⟩ : ∃ j, j = infF op := ⟨_, rfl⟩
    rw [← hj] at hc ⊢
    clear h h1 hj
    go_enter Try.func47, Try.ntmps47
    go_wp2_with fail
    refine (hc _).mono ?_
    rintro e w5 ⟨rfl, hS5⟩
    have hb := (Blk.new w 117 (infA Inf.no)).step hS5 id
    have HS : Hid (Step (fun _ => False) w w5) := Lib.hid ((Step.refl.alloc _).trans hS5)
    obtain ⟨i, hi⟩ : ∃ i, i = j := ⟨_, rfl⟩
    have HI := Lib.hid hi
    rw [← hi]
    have hz := hb.row (infA i)
    have z0 := hz.cell 0
    have z1 := hz.cell 1
    have z2 := hz.cell 2
    have z3 := hz.cell 3
    have z4 := hz.cell 4
    simp [infA] at z0 z1 z2 z3 z4
    clear hS5 hi hz
    go_wp2_with first
      | (refine wpList_store_rowTo rfl 117 _ _ rfl rfl w.heap.size (infA i) rfl rfl 117 _ hb rfl rfl (infA_one i) ?_)
    exact bodyPost_ret (v := infV i) (by simp [results, Try.results47, go_sem, infV, infA, z0, z1, z2, z3, z4]) rfl ⟨by rw [HI.out], HS.out.setRow (.inr (Nat.le_refl _)) _⟩
  by_cases h2 : op ≤ 64
  · have hc : ∀ w, Calls Try.prog 71 #[.int .u8 op] w fun e w' => e = .returned (infV (infF op)) ∧ Step (fun _ => False) w w' := fun w => by
      rw [infF, if_neg h1, if_pos h2]
      exact memory_walk w op h
    have h3 : (40 : Int) ≤ op := by omega
    have h4 : (op : Int) ≤ 64 := by omega
    obtain ⟨j, hj⟩ : ∃ j, j = infF op := ⟨_, rfl⟩
    rw [← hj] at hc ⊢
    clear h h1 h2 hj
    go_enter Try.func47, Try.ntmps47
    go_wp2_with fail
    refine (hc _).mono ?_
    rintro e w5 ⟨rfl, hS5⟩
    have hb := (Blk.new w 117 (infA Inf.no)).step hS5 id
    have HS : Hid (Step (fun _ => False) w w5) := Lib.hid ((Step.refl.alloc _).trans hS5)
    obtain ⟨i, hi⟩ : ∃ i, i = j := ⟨_, rfl⟩
    have HI := Lib.hid hi
    rw [← hi]
    have hz := hb.row (infA i)
    have z0 := hz.cell 0
    have z1 := hz.cell 1
    have z2 := hz.cell 2
    have z3 := hz.cell 3
    have z4 := hz.cell 4
    simp [infA] at z0 z1 z2 z3 z4
    clear hS5 hi hz
    go_wp2_with first
      | (refine wpList_store_rowTo rfl 117 _ _ rfl rfl w.heap.size (infA i) rfl rfl 117 _ hb rfl rfl (infA_one i) ?_)
    exact bodyPost_ret (v := infV i) (by simp [results, Try.results47, go_sem, infV, infA, z0, z1, z2, z3, z4]) rfl ⟨by rw [HI.out], HS.out.setRow (.inr (Nat.le_refl _)) _⟩
  · have hc : ∀ w, Calls Try.prog 72 #[.int .u8 op] w fun e w' => e = .returned (infV (infF op)) ∧ Step (fun _ => False) w w' := fun w => by
      rw [infF, if_neg h1, if_neg h2]
      exact number_walk w op h (by omega)
    have h3 : (64 : Int) < op := by omega
    obtain ⟨j, hj⟩ : ∃ j, j = infF op := ⟨_, rfl⟩
    rw [← hj] at hc ⊢
    clear h h1 h2 hj
    go_enter Try.func47, Try.ntmps47
    go_wp2_with fail
    refine (hc _).mono ?_
    rintro e w5 ⟨rfl, hS5⟩
    have hb := (Blk.new w 117 (infA Inf.no)).step hS5 id
    have HS : Hid (Step (fun _ => False) w w5) := Lib.hid ((Step.refl.alloc _).trans hS5)
    obtain ⟨i, hi⟩ : ∃ i, i = j := ⟨_, rfl⟩
    have HI := Lib.hid hi
    rw [← hi]
    have hz := hb.row (infA i)
    have z0 := hz.cell 0
    have z1 := hz.cell 1
    have z2 := hz.cell 2
    have z3 := hz.cell 3
    have z4 := hz.cell 4
    simp [infA] at z0 z1 z2 z3 z4
    clear hS5 hi hz
    go_wp2_with first
      | (refine wpList_store_rowTo rfl 117 _ _ rfl rfl w.heap.size (infA i) rfl rfl 117 _ hb rfl rfl (infA_one i) ?_)
    exact bodyPost_ret (v := infV i) (by simp [results, Try.results47, go_sem, infV, infA, z0, z1, z2, z3, z4]) rfl ⟨by rw [HI.out], HS.out.setRow (.inr (Nat.le_refl _)) _⟩

set_option maxRecDepth 100000 in
set_option maxHeartbeats 1600000 in
theorem opens_walk (w : World) (op : Nat) (h : op < 256) : Calls Try.prog 63 #[.int .u8 op] w fun e w' => e = .returned (.bool (decide (2 ≤ op) && decide (op ≤ 4))) ∧ w' = w := by
  by_cases h2 : op = 2
  · subst h2
    go_enter Try.func63, Try.ntmps63
    go_wp2_with fail
    go_ret
    exact ⟨rfl, rfl⟩
  by_cases h3 : op = 3
  · subst h3
    go_enter Try.func63, Try.ntmps63
    go_wp2_with fail
    go_ret
    exact ⟨rfl, rfl⟩
  by_cases h4 : op = 4
  · subst h4
    go_enter Try.func63, Try.ntmps63
    go_wp2_with fail
    go_ret
    exact ⟨rfl, rfl⟩
  · have hb : (decide (2 ≤ op) && decide (op ≤ 4)) = false := by
      rw [Bool.and_eq_false_iff, decide_eq_false_iff_not, decide_eq_false_iff_not]; omega
    rw [hb]
    have g2 : ¬ (op : Int) = 2 := by omega
    have g3 : ¬ (op : Int) = 3 := by omega
    have g4 : ¬ (op : Int) = 4 := by omega
    have f2 : ((op : Int) == 2) = false := beq_eq_false_iff_ne.2 g2
    have f3 : ((op : Int) == 3) = false := beq_eq_false_iff_ne.2 g3
    have f4 : ((op : Int) == 4) = false := beq_eq_false_iff_ne.2 g4
    clear h h2 h3 h4 hb
    go_enter Try.func63, Try.ntmps63
    go_wp2_with fail
    go_ret
    exact ⟨rfl, rfl⟩
/-- The name out of what an instruction is. -/
theorem field_inf (i : Inf) : ∀ w : World, (Instr.field 117 (.agg #[.string (str i.name), .int .i64 (i.imm : Int), .string (str i.par), .string (str i.res), .bool i.free]) 0).run Try.prog w = .ok (.string (str i.name)) w := fun _ => by kernel_rfl
end Go.Proofs.Ytpebdfgfikjkeaa
