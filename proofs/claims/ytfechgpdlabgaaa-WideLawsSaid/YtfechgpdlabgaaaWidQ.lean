/-
  Shifts and rotations of 64 bits: plain laws.
-/
import Derived.Test.YtfechgpdlabgaaaWidP
set_option linter.unusedVariables false
set_option linter.unusedSimpArgs false
namespace Go.Proofs.Ytfechgpdlabgaaa.Wide

theorem pow_split {n : Nat} (h : n ≤ 64) : (2 : Nat) ^ 64 = 2 ^ (64 - n) * 2 ^ n := by rw [← Nat.pow_add]; congr 1; omega
def sarN (a n : Nat) : Nat := if a.testBit 63 then 2 ^ (64 - n) * (2 ^ n - 1) + a / 2 ^ n else a / 2 ^ n
def rotlN (a n : Nat) : Nat := 2 ^ n * (a % 2 ^ (64 - n)) + a / 2 ^ (64 - n)
def rotrN (a n : Nat) : Nat := 2 ^ (64 - n) * (a % 2 ^ n) + a / 2 ^ n
theorem shr_small {a n : Nat} (h : a < 2 ^ 64) (hn : n ≤ 64) : a / 2 ^ n < 2 ^ (64 - n) := by
  rw [Nat.div_lt_iff_lt_mul (Nat.two_pow_pos n), ← pow_split hn]; exact h
theorem testBit_big {a k : Nat} (h : a < 2 ^ 64) (hk : 64 ≤ k) : a.testBit k = false := Nat.testBit_lt_two_pow (Nat.lt_of_lt_of_le h (Nat.pow_le_pow_right (by decide) hk))

theorem shr_bit (a n k : Nat) : (a / 2 ^ n).testBit k = a.testBit (k + n) := by rw [Nat.testBit_div_two_pow]
theorem sar_bit {a n k : Nat} (h : a < 2 ^ 64) (hn : n < 64) (hk : k < 64) : (sarN a n).testBit k = if k + n < 64 then a.testBit (k + n) else a.testBit 63 := by
  unfold sarN
  have hs := shr_small h (show n ≤ 64 by omega)
  cases ha : a.testBit 63
  · rw [if_neg (by simp), shr_bit]
    split
    · rfl
    · exact testBit_big h (by omega)
  · rw [if_pos rfl, Nat.testBit_two_pow_mul_add _ hs]
    by_cases hkn : k < 64 - n
    · rw [if_pos hkn, if_pos (by omega), shr_bit]
    · rw [if_neg hkn, if_neg (by omega), Nat.testBit_two_pow_sub_one]
      simp; omega
theorem rotl_bit {a n k : Nat} (h : a < 2 ^ 64) (hn : n < 64) (hk : k < 64) : (rotlN a n).testBit k = a.testBit (if n ≤ k then k - n else k + 64 - n) := by
  unfold rotlN
  have hs : a / 2 ^ (64 - n) < 2 ^ n := by
    have := shr_small (n := 64 - n) h (by omega)
    rwa [show 64 - (64 - n) = n by omega] at this
  rw [Nat.testBit_two_pow_mul_add _ hs]
  by_cases hkn : k < n
  · rw [if_pos hkn, if_neg (by omega), shr_bit]; congr 1; omega
  · rw [if_neg hkn, if_pos (by omega), Nat.testBit_mod_two_pow]
    simp; omega
theorem rotr_bit {a n k : Nat} (h : a < 2 ^ 64) (hn : n < 64) (hk : k < 64) : (rotrN a n).testBit k = a.testBit (if k + n < 64 then k + n else k + n - 64) := by
  unfold rotrN
  rw [Nat.testBit_two_pow_mul_add _ (shr_small h (show n ≤ 64 by omega))]
  by_cases hkn : k < 64 - n
  · rw [if_pos hkn, if_pos (by omega), shr_bit]
  · rw [if_neg hkn, if_neg (by omega), Nat.testBit_mod_two_pow]
    rw [show k - (64 - n) = k + n - 64 by omega]
    simp; omega
theorem sarN_lt {a n : Nat} (h : a < 2 ^ 64) (hn : n < 64) : sarN a n < 2 ^ 64 := by
  have hs := shr_small h (show n ≤ 64 by omega)
  have hp := pow_split (n := n) (by omega)
  have h1 := Nat.two_pow_pos n
  unfold sarN
  split
  · rw [hp]
    generalize a / 2 ^ n = x at *
    generalize 2 ^ (64 - n) = q at *
    generalize 2 ^ n = p at *
    obtain ⟨r, rfl⟩ : ∃ r, p = r + 1 := ⟨p - 1, by omega⟩
    rw [Nat.add_sub_cancel, Nat.mul_add]
    omega
  · exact Nat.lt_of_le_of_lt (Nat.div_le_self _ _) h
theorem rotlN_lt {a n : Nat} (h : a < 2 ^ 64) (hn : n < 64) : rotlN a n < 2 ^ 64 := by
  have hs : a / 2 ^ (64 - n) < 2 ^ n := by
    have := shr_small (n := 64 - n) h (by omega)
    rwa [show 64 - (64 - n) = n by omega] at this
  have hm := Nat.mod_lt a (Nat.two_pow_pos (64 - n))
  have hp := pow_split (n := n) (by omega)
  unfold rotlN
  rw [hp, Nat.mul_comm (2 ^ (64 - n))]
  have : 2 ^ n * (a % 2 ^ (64 - n)) + 2 ^ n ≤ 2 ^ n * 2 ^ (64 - n) := by rw [← Nat.mul_succ]; exact Nat.mul_le_mul_left _ hm
  omega
theorem rotrN_lt {a n : Nat} (h : a < 2 ^ 64) (hn : n < 64) : rotrN a n < 2 ^ 64 := by
  have hs := shr_small h (show n ≤ 64 by omega)
  have hm := Nat.mod_lt a (Nat.two_pow_pos n)
  have hp := pow_split (n := n) (by omega)
  unfold rotrN
  rw [hp]
  have : 2 ^ (64 - n) * (a % 2 ^ n) + 2 ^ (64 - n) ≤ 2 ^ (64 - n) * 2 ^ n := by rw [← Nat.mul_succ]; exact Nat.mul_le_mul_left _ hm
  omega
end Go.Proofs.Ytfechgpdlabgaaa.Wide
