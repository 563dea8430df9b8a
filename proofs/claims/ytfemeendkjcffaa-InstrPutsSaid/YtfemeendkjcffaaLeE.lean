/-
  leb: the reference's Uint and Int.
-/
import Derived.Test.YtfemeendkjcffaaLeD
set_option linter.unusedVariables false
set_option linter.unusedSimpArgs false
namespace Go.Proofs.Ytfemeendkjcffaa
open Go.RowKit

/-! ### What the groups have to do with the bytes -/
theorem grpL_cons (v : Int) (n k : Nat) (hn : 1 ≤ n) : grpL v (n + 1) (k + 1) = b8 (v % 128 + 128) :: grpL (v / 128) n k := by
  simp only [grpL, List.range_succ_eq_map, List.map_cons, List.map_map]
  congr 1
  · rw [grpB, if_pos (by omega), Int.pow_zero, Int.ediv_one]
  · refine List.map_congr_left fun i _ => ?_
    simp only [Function.comp, grpB]
    rw [show v / 128 ^ (i + 1) = v / 128 / 128 ^ i by
      rw [Int.pow_succ, Int.mul_comm, Int.ediv_ediv_of_nonneg (by decide)]]
    simp only [Nat.succ_eq_add_one, Nat.add_lt_add_iff_right]
theorem grpL_one (v : Int) : grpL v 1 1 = [b8 (v % 128)] := by
  simp [grpL, grpB, List.range_succ]
/-- Bytes without a sign are groups: n the least number of them. -/
theorem uint_grp : ∀ (f v n : Nat), 1 ≤ n → n ≤ f → v < 128 ^ n → (∀ m, 1 ≤ m → m < n → ¬ v < 128 ^ m) → uintL f v = grpL v n n
  | 0, _, _, h1, h2, _, _ => by omega
  | f + 1, v, n, h1, h2, hv, hm => by
    rw [uintL]
    by_cases hlt : v < 128
    · rw [if_pos hlt]
      obtain rfl : n = 1 := by
        rcases Nat.lt_or_ge 1 n with h | h
        · exact absurd (show v < 128 ^ 1 from hlt) (hm 1 (by decide) h)
        · omega
      rw [grpL_one, b8, show ((v : Int) % 128).toNat = v by omega]
    · rw [if_neg hlt]
      obtain ⟨k, rfl⟩ : ∃ k, n = k + 2 := by
        rcases n with _ | _ | k
        · omega
        · exact absurd hv (by simpa using hlt)
        · exact ⟨k, rfl⟩
      have hd : ∀ m, v / 128 < 128 ^ m ↔ v < 128 ^ (m + 1) := fun m => by
        rw [Nat.div_lt_iff_lt_mul (by decide), Nat.pow_succ]
      rw [grpL_cons _ _ _ (by omega), b8, show ((v : Int) % 128 + 128).toNat = v % 128 + 128 by omega, show ((v : Int) / 128) = ((v / 128 : Nat) : Int) by omega]
      congr 1
      exact uint_grp f (v / 128) (k + 1) (by omega) (by omega) ((hd _).2 hv) fun m h1 h2 h3 => hm (m + 1) (by omega) (by omega) ((hd _).1 h3)
/-- .. and those with a sign. -/
theorem int_grp : ∀ (f : Nat) (v : Int) (n : Nat), n < f → (-(64 * 128 ^ n) ≤ v ∧ v < 64 * 128 ^ n) → (∀ m, m < n → ¬ (-(64 * 128 ^ m) ≤ v ∧ v < 64 * 128 ^ m)) → intL f v = grpL v (n + 1) (n + 1)
  | 0, _, _, h, _, _ => by omega
  | f + 1, v, n, h, hv, hm => by
    rw [intL]
    by_cases hlt : -64 ≤ v ∧ v ≤ 63
    · rw [if_pos hlt]
      obtain rfl : n = 0 := by
        rcases Nat.eq_zero_or_pos n with h | h
        · exact h
        · exact absurd (show -(64 * (128 : Int) ^ 0) ≤ v ∧ v < 64 * (128 : Int) ^ 0 by rw [Int.pow_zero]; omega) (hm 0 h)
      rw [grpL_one]
    · rw [if_neg hlt]
      obtain ⟨k, rfl⟩ : ∃ k, n = k + 1 := by
        rcases n with _ | k
        · rw [Int.pow_zero] at hv; omega
        · exact ⟨k, rfl⟩
      have hd : ∀ m : Nat, (-(64 * (128 : Int) ^ m) ≤ v / 128 ∧ v / 128 < 64 * 128 ^ m) ↔ (-(64 * (128 : Int) ^ (m + 1)) ≤ v ∧ v < 64 * 128 ^ (m + 1)) := fun m => by
        rw [Int.pow_succ]
        generalize (128 : Int) ^ m = P
        omega
      rw [grpL_cons _ _ _ (by omega)]
      congr 1
      exact int_grp f (v / 128) k (by omega) ((hd _).2 hv) fun m h1 h3 => hm (m + 1) (by omega) ((hd _).1 h3)
end Go.Proofs.Ytfemeendkjcffaa
