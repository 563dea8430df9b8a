/-
  instr: Right, joined.
-/
import Derived.Test.YtpebdfgfikjkeaaInB
set_option linter.unusedVariables false
set_option linter.unusedSimpArgs false
namespace Go.Proofs.Ytpebdfgfikjkeaa
open Go.RowKit

set_option maxRecDepth 100000 in
set_option maxHeartbeats 1600000 in
theorem right_err (w : World) (op a b e : Int) (n c : Nat) (A : Option Addr) (he : ¬ e = 0)
    (HC : Hid (∀ w, Calls Try.prog 66 #[.int .u8 op] w fun x w' => x = .returned (.int .i64 e) ∧ Step (fun _ => False) w w')) :
    Calls Try.prog 46 #[.agg #[.int .u8 op, .int .u64 a, .int .u64 b, .slice A n c]] w fun x w' => x = .returned (.int .i64 e) ∧ Step (fun _ => False) w w' := by
  have p0 : (e != 0) = true := bne_iff_ne.2 he
  go_enter Try.func46, Try.ntmps46
  go_wp2_with fail
  refine (HC.out _).mono ?_
  rintro e w5 ⟨rfl, hS5⟩
  have HS5 := Lib.hid ((Step.refl.alloc _).trans hS5)
  clear hS5
  go_wp2_with fail
  go_ret
  exact ⟨rfl, HS5.out⟩

theorem right_walk (w : World) (op a b n c : Nat) (A : Option Addr) (h : op < 256) :
    Calls Try.prog 46 #[insV op a b A n c] w fun e w' => e = .returned (.int .i64 (rgtF op a b n : Nat)) ∧ Step (fun _ => False) w w' := by
  have HC : Hid (∀ w, Calls Try.prog 66 #[.int .u8 op] w fun e w' => e = .returned (.int .i64 (chkF op : Nat)) ∧ Step (fun _ => False) w w') := fun w => check_walk w op h
  have HO : Hid (∀ w, Calls Try.prog 47 #[.int .u8 op] w fun e w' => e = .returned (infM (infF op) ((infF op).imm : Int)) ∧ Step (fun _ => False) w w') := fun w => of_walk w op h
  rw [rgtF, insV]
  by_cases he : chkF op = 0
  · rw [if_pos he]
    rw [he] at HC
    obtain ⟨i, hi⟩ : ∃ i, i = infF op := ⟨_, rfl⟩
    rw [← hi] at HO ⊢
    clear hi
    obtain ⟨m, hm⟩ : ∃ m, m = i.imm := ⟨_, rfl⟩
    rw [← hm] at HO ⊢
    clear hm he
    by_cases h1 : (0 < n ∧ ¬ m = 3) ∨ 10000 < n
    · rw [immF, if_pos h1]
      by_cases h3 : m = 3
      · rw [if_pos h3]
        subst h3
        exact right_l2 w op a b n c A i (by omega) HC HO
      · rw [if_neg h3]
        exact right_l1 w op a b n c A i m (by omega) (by omega) HC HO
    rw [immF, if_neg h1]
    by_cases h2 : ¬ b = 0 ∧ ¬ m = 8
    · rw [if_pos h2]
      by_cases hn : n = 0
      · subst hn
        exact right_z1 w op a b c A i m (by omega) (by omega) HC HO
      · obtain rfl : m = 3 := by omega
        exact right_y1 w op a b n c A i (by omega) (by omega) HC HO
    rw [if_neg h2]
    by_cases h4 : m = 0 ∨ m = 9
    · rw [if_pos h4]
      obtain rfl : n = 0 := by omega
      obtain rfl : b = 0 := by omega
      by_cases ha : a = 0
      · rw [if_pos ha]
        subst ha
        rcases h4 with rfl | rfl
        · exact right_z2_0_t w op c A i HC HO
        · exact right_z2_9_t w op c A i HC HO
      · rw [if_neg ha]
        rcases h4 with rfl | rfl
        · exact right_z2_0_f w op a c A i (by omega) HC HO
        · exact right_z2_9_f w op a c A i (by omega) HC HO
    rw [if_neg h4]
    by_cases h5 : m = 1
    · rw [if_pos h5]
      subst h5
      obtain rfl : n = 0 := by omega
      obtain rfl : b = 0 := by omega
      exact right_z3 w op c A i a HC HO
    rw [if_neg h5]
    by_cases h6 : m = 11
    · rw [if_pos h6]
      subst h6
      obtain rfl : n = 0 := by omega
      obtain rfl : b = 0 := by omega
      exact right_z4 w op a c A i HC HO
    rw [if_neg h6]
    by_cases hn : n = 0
    · subst hn
      by_cases hb : b = 0
      · subst hb
        by_cases h3 : m = 3
        · subst h3
          by_cases ha : a < 4294967296
          · rw [if_pos ⟨ha, by omega⟩]
            exact right_w5_t w op a c A i (by omega) HC HO
          · rw [if_neg (by omega)]
            exact right_w5_f w op a c A i (by omega) HC HO
        · by_cases ha : a < 4294967296
          · rw [if_pos ⟨ha, by omega⟩]
            exact right_z5_t w op a c A i m (by omega) (by omega) HC HO
          · rw [if_neg (by omega)]
            exact right_z5_f w op a c A i m (by omega) (by omega) HC HO
      · obtain rfl : m = 8 := by omega
        by_cases hb2 : b < 4294967296
        · by_cases ha : a < 4294967296
          · rw [if_pos ⟨ha, hb2⟩]
            exact right_z8_t w op a b c A i (by omega) (by omega) HC HO
          · rw [if_neg (by omega)]
            exact right_z8_f w op a b c A i (by omega) (by omega) HC HO
        · rw [if_neg (by omega)]
          by_cases ha : a < 4294967296
          · exact right_z8h_t w op a b c A i (by omega) (by omega) HC HO
          · exact right_z8h_f w op a b c A i (by omega) (by omega) HC HO
    · obtain rfl : m = 3 := by omega
      obtain rfl : b = 0 := by omega
      by_cases ha : a < 4294967296
      · rw [if_pos ⟨ha, by omega⟩]
        exact right_y5_t w op a n c A i (by omega) (by omega) HC HO
      · rw [if_neg (by omega)]
        exact right_y5_f w op a n c A i (by omega) (by omega) HC HO
  · rw [if_neg he]
    exact right_err w op a b (chkF op : Nat) n c A (by omega) HC
end Go.Proofs.Ytpebdfgfikjkeaa
