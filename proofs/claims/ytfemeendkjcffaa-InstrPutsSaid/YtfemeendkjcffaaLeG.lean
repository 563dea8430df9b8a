/-
  leb: the reference's Int, walked.
-/
import Derived.Test.YtfemeendkjcffaaLeF
set_option linter.unusedVariables false
set_option linter.unusedSimpArgs false
namespace Go.Proofs.Ytfemeendkjcffaa
open Go.RowKit

/-- A number's bits below 64 hang on what is left of it by 2^64 alone. -/
theorem ibit_mod (v : Int) (j : Nat) (hj : j < 64) : ibit (v % 18446744073709551616) j = ibit v j := by
  have h1 := Int.emod_add_mul_ediv v 18446744073709551616
  have hp : (18446744073709551616 : Int) = 2 ^ j * (2 ^ (63 - j) * 2) := by
    rw [← Int.mul_assoc, ← Int.pow_add, show j + (63 - j) = 63 by omega]
    rfl
  generalize hq : v / 18446744073709551616 = q at h1
  generalize v % 18446744073709551616 = u at *
  rw [ibit, ibit, ← h1, hp, Int.mul_assoc, Int.add_mul_ediv_left _ _ (show (2 : Int) ^ j ≠ 0 from Int.ne_of_gt (Int.pow_pos (by decide)))]
  generalize (2 : Int) ^ (63 - j) = P
  generalize u / 2 ^ j = y
  rw [show y + P * 2 * q = y + 2 * (P * q) by rw [Int.mul_comm P 2, Int.mul_assoc], Int.add_mul_emod_self_left]
theorem ibs_mod (v : Int) : ibs 64 (v % 18446744073709551616) = ibs 64 v := by
  unfold ibs
  refine List.map_congr_left fun j hj => ibit_mod v j (by simpa using hj)
/-- The bits of the number that mirrors one. -/
theorem ibit_neg (v : Int) (j : Nat) : ibit (-v - 1) j = !ibit v j := by
  have hP : (0 : Int) < 2 ^ j := Int.pow_pos (by decide)
  have : (-v - 1) / 2 ^ j = -(v / 2 ^ j) - 1 := by
    generalize (2 : Int) ^ j = P at *
    have h1 := Int.emod_add_mul_ediv v P
    have h2 := Int.emod_nonneg v (show P ≠ 0 by omega)
    have h3 := Int.emod_lt_of_pos v hP
    generalize v / P = q at *
    generalize v % P = r at *
    rw [← h1, show -(r + P * q) - 1 = (P - 1 - r) + P * (-q - 1) by rw [Int.mul_sub, Int.mul_neg, Int.mul_one]; omega, Int.add_mul_ediv_left _ _ (by omega), Int.ediv_eq_zero_of_lt (by omega) (by omega)]
    omega
  rw [ibit, ibit, this, Bool.eq_iff_iff]
  simp
  omega
theorem ibit_hi (v : Nat) (j : Nat) (h : v < 2 ^ j) : ibit (v : Int) j = false := by
  rw [ibit_nat]; exact Nat.testBit_lt_two_pow h
/-- Where all bits from a place on are alike. -/
theorem bits_alike {v : Int} {a : Nat} (ha : a ≤ 63) (hv : -9223372036854775808 ≤ v ∧ v ≤ 9223372036854775807) : (∀ j, a ≤ j → j < 64 → ibit v j = ibit v 63) ↔ (-(2 ^ a : Nat) ≤ v ∧ v < (2 ^ a : Nat)) := by
  rcases Int.lt_or_le v 0 with hn | hp
  · obtain ⟨x, hx⟩ : ∃ x : Nat, -v - 1 = x := ⟨(-v - 1).toNat, by omega⟩
    have hb : ∀ j, ibit v j = !ibit (x : Int) j := fun j => by rw [← hx, ibit_neg, Bool.not_not]
    have h63 : ibit (x : Int) 63 = false := ibit_hi x 63 (by omega)
    have := bits_lt (v := x) (a := a) (by omega)
    rw [show (∀ j, a ≤ j → j < 64 → ibit v j = ibit v 63) ↔ (∀ j, a ≤ j → j < 64 → ibit (x : Int) j = false) from by
      constructor
      · intro h j h1 h2
        have := h j h1 h2
        rw [hb, hb 63, h63] at this
        cases hq : ibit (x : Int) j with
        | false => rfl
        | true => rw [hq] at this; cases this
      · intro h j h1 h2
        rw [hb, hb 63, h63, h j h1 h2]]
    rw [this]
    generalize 2 ^ a = P
    omega
  · obtain ⟨x, rfl⟩ : ∃ x : Nat, v = x := ⟨v.toNat, by omega⟩
    have h63 : ibit (x : Int) 63 = false := ibit_hi x 63 (by omega)
    rw [h63, bits_lt (by omega)]
    generalize 2 ^ a = P
    omega
theorem ibit_far {v : Int} (hv : -9223372036854775808 ≤ v ∧ v ≤ 9223372036854775807) (j : Nat) (h : 63 ≤ j) : ibit v j = ibit v 63 := by
  rcases Int.lt_or_le v 0 with hn | hp
  · obtain ⟨x, hx⟩ : ∃ x : Nat, -v - 1 = x := ⟨(-v - 1).toNat, by omega⟩
    have hb : ∀ j, ibit v j = !ibit (x : Int) j := fun j => by rw [← hx, ibit_neg, Bool.not_not]
    rw [hb, hb 63, ibit_hi x 63 (by omega), ibit_hi x j (Nat.lt_of_lt_of_le (show x < 2 ^ 63 by omega) (Nat.pow_le_pow_right (by decide : 2 > 0) h))]
  · obtain ⟨x, rfl⟩ : ∃ x : Nat, v = x := ⟨v.toNat, by omega⟩
    rw [ibit_hi x 63 (by omega), ibit_hi x j (Nat.lt_of_lt_of_le (show x < 2 ^ 63 by omega) (Nat.pow_le_pow_right (by decide : 2 > 0) h))]
theorem pow64 (n : Nat) : ((2 ^ (7 * (n + 1) - 1) : Nat) : Int) = 64 * 128 ^ n := by
  rw [show 7 * (n + 1) - 1 = 6 + 7 * n by omega, Nat.pow_add, Nat.pow_mul, Int.natCast_mul, Int.natCast_pow]
  rfl
end Go.Proofs.Ytfemeendkjcffaa
