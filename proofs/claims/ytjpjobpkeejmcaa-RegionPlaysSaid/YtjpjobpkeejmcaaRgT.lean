/-
  region: the law's 'same' (printed by gen_rgt.py).
-/
import Derived.Test.YtjpjobpkeejmcaaRgS
set_option linter.unusedVariables false
set_option linter.unusedSimpArgs false
namespace Go.Proofs.Ytjpjobpkeejmcaa
open Go.RowKit

set_option maxRecDepth 100000 in
set_option maxHeartbeats 12800000 in
theorem lsame_walk (w : World) (A1 A2 : Option Addr) (c1 c2 n : Nat) (ps : List Pc) (S1 S2 : Nat → Prop) (hN : n = ps.length) (h1 : Reads w S1 3 A1 n (pcs ps)) (h2 : Reads w S2 3 A2 n (pcs ps)) (hn : n ≤ 1000000) (hl : ∀ p ∈ ps, p.at_ + p.len ≤ 1073741824) :
    Calls Try.prog 23 #[.slice A1 n c1, .slice A2 n c2] w fun e w' => e = .returned (.bool true) ∧ Step (fun _ => False) w w' := by
  have HR1 := Lib.hid h1
  have HR2 := Lib.hid h2
  have HN := Lib.hid hN
  have HL := Lib.hid hl
  have n4 : ((n : Int) != (n : Int)) = false := by simp
  clear h1 h2 hN hl
  go_enter Try.func23, Try.ntmps23
  go_wp2_with fail
  go_loopw [5] (fun iv wr => ∃ (j : Nat), j ≤ n ∧ iv = .int .i64 (j : Int) ∧ Hid (Step (fun _ => False) w wr)) (fun iv _ => n + 1 - (intOf iv).toNat)
  case atStart => exact ⟨0, by omega, rfl, Step.refl⟩
  case round =>
    obtain ⟨j, hj, rfl, HSj⟩ := hrel
    by_cases hlt : j < n
    · have g1 : (j : Int) < (n : Int) := by omega
      have i0 : (0 : Int) ≤ (j : Int) := by omega
      have hw1 := IntWalk.i64_in ((j : Int) + 1) (by omega)
      have hjl : j < ps.length := by rw [← HN.out]; exact hlt
      obtain ⟨bk, off, rfl, _, hbl, hc⟩ := reads_row Pc.cells 3 (by decide) Pc.three (HR1.out.step HSj.out (fun _ _ => id)) (k := j) hjl
      obtain ⟨bz, ofz, rfl, _, hbz, hcz⟩ := reads_row Pc.cells 3 (by decide) Pc.three (HR2.out.step HSj.out (fun _ _ => id)) (k := j) hjl
      have hpl := HL.out ps[j] (List.getElem_mem hjl)
      generalize ps[j] = p at hc hcz hpl
      obtain ⟨a, l, o⟩ := p
      have k0 := hc 0 _ rfl
      have k1 := hc 1 _ rfl
      have k2 := hc 2 _ rfl
      have e0 := hcz 0 _ rfl
      have e1 := hcz 1 _ rfl
      have e2 := hcz 2 _ rfl
      simp only [Nat.add_zero] at k0 k1 k2 e0 e1 e2 hpl
      have d0 := cls_cell (F := fun _ => False) k0 id
      have d1 := cls_cell (F := fun _ => False) k1 id
      have d2 := cls_cell (F := fun _ => False) k2 id
      have x0 := cls_cell (F := fun _ => False) e0 id
      have x1 := cls_cell (F := fun _ => False) e1 id
      have x2 := cls_cell (F := fun _ => False) e2 id
      have hw2 : IntKind.i64.wrap ((a : Int) + (l : Int)) = ((a + l : Nat) : Int) := by rw [Int.natCast_add]; exact IntWalk.i64_in _ (by omega)
      have n1 : ((a : Int) != (a : Int)) = false := by simp
      have n2 : ((l : Int) != (l : Int)) = false := by simp
      have n3 : (o != o) = false := by simp
      have n5 : (((a + l : Nat) : Int) != ((a + l : Nat) : Int)) = false := by simp
      have HP : Hid (∀ w, Calls Try.prog 25 #[.agg #[.int .i64 (a : Int), .int .i64 (l : Int), .int .i64 o]] w fun e w' => e = .returned (.int .i64 ((a + l : Nat) : Int)) ∧ Step (fun _ => False) w w') := fun w => pend_walk w a l o (by omega)
      generalize a + l = y at hw2 n5 HP
      clear hc hcz hpl
      go_wp2_with fail
      refine Mxt.wp_region_tree [42] [42] (.reads [0, 1, 2, 3, 4, 5, 6, 7, 8, 9, 10, 11, 12, 13, 14, 15, 16, 17, 18, 19, 20, 21, 22, 23, 24, 25, 26, 27, 28, 29, 30, 31, 32, 33, 34, 35, 36, 37, 38, 39, 40, 41] (.op 42 (.reads [43, 44, 45, 46, 47, 48, 49, 50, 51, 52, 53, 54, 55] .leaf))) (Step (fun _ => False) wr) (by kernel_rfl) (by kernel_rfl) Step.refl.drew (fun hcls => ?_)
      refine Mxt.wpTL_reads ?_
      simp only [List.flatMap_cons, List.flatMap_nil, List.getElem?_cons_succ, List.getElem?_cons_zero, Option.toList_some, List.cons_append, List.nil_append]
      repeat (go_big_quiet_step (fail))
      refine wpQuiet_nil ?_
      refine Mxt.wpTL_op (by rfl) (fun K hK => ?_)
      go_simp
      refine (HP.out _).mono ?_
      rintro e we ⟨rfl, hSe⟩
      have hSe := (Step.drew (Step.refl (F := fun _ => False) (w := wr))).trans hSe
      refine hK _ _ (fun hlt => Mix.cl hSe) ?_
      clear hK K
      try simp only [Act.put, List.setIfInBounds_toArray, List.set_cons_succ, List.set_cons_zero]
      refine Mxt.wpTL_reads ?_
      simp only [List.flatMap_cons, List.flatMap_nil, List.getElem?_cons_succ, List.getElem?_cons_zero, Option.toList_some, List.cons_append, List.nil_append]
      repeat (go_big_quiet_step (fail))
      refine wpQuiet_nil ?_
      refine Mxt.wpTL_leaf ?_
      go_wp2_with fail
      go_roundw
      case rel => exact ⟨j + 1, by omega, by rw [Int.natCast_add]; rfl, HSj.out.trans hSe⟩
      case measure => simp [intOf]; omega
    · have g1 : ¬ (j : Int) < (n : Int) := by omega
      have g1' : decide ((j : Int) < (n : Int)) = false := decide_eq_false g1
      go_wp2_with fail
      go_ret
      exact ⟨rfl, HSj.out⟩
end Go.Proofs.Ytjpjobpkeejmcaa
