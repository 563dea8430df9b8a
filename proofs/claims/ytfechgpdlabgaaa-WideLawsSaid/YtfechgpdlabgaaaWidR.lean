/-
  The operators of the program on 64 bits: plain laws.
-/
import Derived.Test.YtfechgpdlabgaaaWidM
import Derived.Laws.BitsAllLaws
set_option linter.unusedVariables false
set_option linter.unusedSimpArgs false
namespace Go.Proofs.Ytfechgpdlabgaaa
open Go.RowKit Wide

theorem wrapu (n : Int) : IntKind.u64.wrap n = n % 18446744073709551616 := Go.IntKind.wrap_u64 n
theorem wrap_nat (n : Nat) : IntKind.u64.wrap (n : Int) = ((n % 2 ^ 64 : Nat) : Int) := by rw [wrapu]; simp
theorem bit63 {a : Nat} (h : a < 2 ^ 64) : a.testBit 63 = decide (2 ^ 63 ≤ a) := by
  rw [bit_div, Bool.eq_iff_iff]; simp; omega
theorem wrap64_nat {a : Nat} (h : a < 2 ^ 64) : wrap64 (a : Int) = if a.testBit 63 then -((negN a : Nat) : Int) else (a : Int) := by
  rw [bit63 h]
  unfold wrap64 negN
  by_cases h1 : 2 ^ 63 ≤ a
  · simp only [h1, decide_true, if_true]; omega
  · simp only [h1, decide_false, Bool.false_eq_true, if_false]; omega
theorem wrap_abs {a : Nat} (h : a < 2 ^ 64) : wrap64 (a : Int) = if a.testBit 63 then -((absN a : Nat) : Int) else ((absN a : Nat) : Int) := by
  rw [wrap64_nat h]
  unfold absN
  cases a.testBit 63 <;> simp
theorem wrap_wrap (z : Int) : IntKind.u64.wrap (wrap64 z) = IntKind.u64.wrap z := by
  rw [wrapu, wrapu]; unfold wrap64; omega
theorem wrap_neg {q : Nat} (h : q < 2 ^ 64) : IntKind.u64.wrap (-(q : Int)) = ((negN q : Nat) : Int) := by
  rw [wrapu]; unfold negN; omega
theorem wrap_pos {q : Nat} (h : q < 2 ^ 64) : IntKind.u64.wrap (q : Int) = (q : Int) := by
  rw [wrapu]; omega

theorem quo_law {a b : Nat} (ha : a < 2 ^ 64) (hb : b < 2 ^ 64) : IntKind.u64.wrap ((wrap64 (a : Int)).tdiv (wrap64 (b : Int))) = ((sgnQ a b : Nat) : Int) := by
  have hq : absN a / absN b < 2 ^ 64 := Nat.lt_of_le_of_lt (Nat.div_le_self _ _) (absN_lt ha)
  rw [wrap_abs ha, wrap_abs hb]
  unfold sgnQ
  generalize absN a = A at *
  generalize absN b = B at *
  cases a.testBit 63 <;> cases b.testBit 63 <;> simp [-Int.natCast_ediv, Int.neg_tdiv, Int.tdiv_neg]
  · rw [show ((A : Int) / (B : Int)) = ((A / B : Nat) : Int) by simp]; exact wrap_pos hq
  · rw [show ((A : Int) / (B : Int)) = ((A / B : Nat) : Int) by simp]; exact wrap_neg hq
  · rw [show ((A : Int) / (B : Int)) = ((A / B : Nat) : Int) by simp]; exact wrap_neg hq
  · rw [show ((A : Int) / (B : Int)) = ((A / B : Nat) : Int) by simp]; exact wrap_pos hq
theorem rem_law {a b : Nat} (ha : a < 2 ^ 64) (hb : b < 2 ^ 64) (h0 : 0 < b) : IntKind.u64.wrap ((wrap64 (a : Int)).tmod (wrap64 (b : Int))) = ((sgnR a b : Nat) : Int) := by
  have hq : absN a % absN b < 2 ^ 64 := Nat.lt_of_lt_of_le (Nat.mod_lt _ (absN_pos hb h0)) (Nat.le_of_lt (absN_lt hb))
  rw [wrap_abs ha, wrap_abs hb]
  unfold sgnR
  generalize absN a = A at *
  generalize absN b = B at *
  cases a.testBit 63 <;> cases b.testBit 63 <;> simp [-Int.natCast_emod, Int.neg_tmod, Int.tmod_neg]
  · rw [show ((A : Int).tmod (B : Int)) = ((A % B : Nat) : Int) from (Int.ofNat_tmod A B).symm]; exact wrap_pos hq
  · rw [show ((A : Int).tmod (B : Int)) = ((A % B : Nat) : Int) from (Int.ofNat_tmod A B).symm]; exact wrap_pos hq
  · rw [show ((A : Int).tmod (B : Int)) = ((A % B : Nat) : Int) from (Int.ofNat_tmod A B).symm]; exact wrap_neg hq
  · rw [show ((A : Int).tmod (B : Int)) = ((A % B : Nat) : Int) from (Int.ofNat_tmod A B).symm]; exact wrap_neg hq

theorem minus_one {b : Nat} (hb : b < 2 ^ 64) : (wrap64 (b : Int) == -1) = decide (b = 2 ^ 64 - 1) := by
  rw [Bool.eq_iff_iff]; simp; unfold wrap64; omega
/-- Where a signed quotient does not fit. -/
theorem over_law {a b : Nat} (ha : a < 2 ^ 64) (hb : b < 2 ^ 64) (h0 : 0 < b) : (a.testBit 63 = true ∧ b.testBit 63 = true ∧ (sgnQ a b).testBit 63 = true) ↔ (b = 2 ^ 64 - 1 ∧ a = 2 ^ 63) := by
  constructor
  · rintro ⟨h1, h2, h3⟩
    have hq : sgnQ a b = negN a / negN b := by unfold sgnQ absN; rw [h1, h2]; rfl
    rw [hq] at h3
    rw [bit63 ha] at h1
    rw [bit63 hb] at h2
    have e1 : negN a = 2 ^ 64 - a := by unfold negN; simp at h1; omega
    have e2 : negN b = 2 ^ 64 - b := by unfold negN; simp at h2; omega
    rw [e1, e2] at h3
    simp at h1 h2
    have hB : 0 < 2 ^ 64 - b := by omega
    have hd := Nat.div_mul_le_self (2 ^ 64 - a) (2 ^ 64 - b)
    have hlt : (2 ^ 64 - a) / (2 ^ 64 - b) < 2 ^ 64 := Nat.lt_of_le_of_lt (Nat.div_le_self _ _) (by omega)
    rw [bit63 hlt] at h3
    simp at h3
    generalize (18446744073709551616 - a) / (18446744073709551616 - b) = q at *
    have : q * (2 ^ 64 - b) ≥ q := Nat.le_mul_of_pos_right _ hB
    have ha' : a = 2 ^ 63 := by omega
    subst ha'
    refine ⟨?_, rfl⟩
    rcases Nat.lt_or_ge (2 ^ 64 - b) 2 with h | h
    · omega
    · have : q * 2 ≤ q * (2 ^ 64 - b) := Nat.mul_le_mul_left _ h
      omega
  · rintro ⟨rfl, rfl⟩
    decide +kernel

theorem quot0 {a b : Nat} (ha : a < 2 ^ 64) (hb : b < 2 ^ 64) (h0 : 0 < b) : quotF 0 a b = if b = 2 ^ 64 - 1 ∧ a = 2 ^ 63 then (0, 62) else (sgnQ a b, 0) := by
  unfold quotF
  rw [if_neg (by omega)]
  simp only [true_and, Nat.zero_mod, if_true, Nat.zero_lt_succ]
  by_cases h : b = 2 ^ 64 - 1 ∧ a = 2 ^ 63
  · rw [if_pos ((over_law ha hb h0).2 h), if_pos h]
  · rw [if_neg (fun x => h ((over_law ha hb h0).1 x)), if_neg h]
theorem quot2_one {a : Nat} (ha : a < 2 ^ 64) : quotF 2 a (2 ^ 64 - 1) = (0, 0) := by
  have h1 : absN (2 ^ 64 - 1) = 1 := by decide +kernel
  unfold quotF
  rw [if_neg (by decide)]
  simp only [Nat.reduceMod, if_true, Nat.reduceLT, if_false]
  rw [if_neg (by rintro ⟨h, _⟩; cases h)]
  unfold sgnR
  rw [h1, Nat.mod_one]
  cases a.testBit 63 <;> simp [negN]

/-! ### shifts, rotations -/
theorem shl_law (a n : Nat) : IntKind.u64.wrap ((a : Int) * 2 ^ n) = ((a * 2 ^ n % 2 ^ 64 : Nat) : Int) := by
  rw [← wrap_nat]; simp
theorem sar_law {a n : Nat} (ha : a < 2 ^ 64) (hn : n < 64) : IntKind.u64.wrap (wrap64 (a : Int) / 2 ^ n) = ((sarN a n : Nat) : Int) := by
  have hp := pow_split (n := n) (by omega)
  have hs := sarN_lt ha hn
  rw [wrap64_nat ha]
  unfold sarN at *
  cases h : a.testBit 63
  · rw [h] at hs
    simp only [Bool.false_eq_true, if_false] at hs ⊢
    rw [show ((a : Int) / 2 ^ n) = ((a / 2 ^ n : Nat) : Int) by simp]
    exact wrap_pos hs
  · rw [h] at hs
    simp only [if_true] at hs ⊢
    have h63 : 2 ^ 63 ≤ a := by rw [bit63 ha] at h; simpa using h
    have e1 : (-((negN a : Nat) : Int)) = (a : Int) + (-(2 ^ (64 - n) : Nat) : Int) * ((2 ^ n : Nat) : Int) := by
      have : (2 ^ (64 - n) : Nat) * (2 ^ n : Nat) = 2 ^ 64 := hp.symm
      have h2 : ((2 ^ (64 - n) : Nat) : Int) * ((2 ^ n : Nat) : Int) = 2 ^ 64 := by rw [← Int.natCast_mul, this]; rfl
      rw [Int.neg_mul, h2]
      unfold negN; omega
    have hpos : ((2 ^ n : Nat) : Int) ≠ 0 := by have := Nat.two_pow_pos n; omega
    rw [show ((2 : Int) ^ n) = ((2 ^ n : Nat) : Int) by simp, e1, Int.add_mul_ediv_right _ _ hpos]
    have hq := shr_small ha (show n ≤ 64 by omega)
    have e2 : (2 ^ (64 - n) : Nat) * (2 ^ n - 1) = 2 ^ 64 - 2 ^ (64 - n) := by rw [Nat.mul_sub, ← hp, Nat.mul_one]
    have hle : (2 ^ (64 - n) : Nat) ≤ 2 ^ 64 := Nat.pow_le_pow_right (by decide) (by omega)
    rw [e2, wrapu, show ((a : Int) / ((2 ^ n : Nat) : Int)) = ((a / 2 ^ n : Nat) : Int) by simp]
    generalize a / 2 ^ n = x at *
    generalize 2 ^ (64 - n) = y at *
    omega
theorem rotl_law {a k : Nat} (ha : a < 2 ^ 64) (hk : k < 64) : bits BinOp.or IntKind.u64 (IntKind.u64.wrap ((a : Int) * 2 ^ k)) ((a : Int) / 2 ^ (64 - k)) = ((rotlN a k : Nat) : Int) := by
  have hs : a / 2 ^ (64 - k) < 2 ^ k := by
    have := shr_small (n := 64 - k) ha (by omega)
    rwa [show 64 - (64 - k) = k by omega] at this
  rw [shl_law, show ((a : Int) / 2 ^ (64 - k)) = ((a / 2 ^ (64 - k) : Nat) : Int) by simp]
  rw [Go.u64_or_nat _ _ (Nat.mod_lt _ (by decide)) (Nat.lt_of_le_of_lt (Nat.div_le_self _ _) ha)]
  unfold rotlN
  have e : a * 2 ^ k % 2 ^ 64 = 2 ^ k * (a % 2 ^ (64 - k)) := by
    rw [pow_split (n := k) (by omega), Nat.mul_mod_mul_right, Nat.mul_comm]
  rw [e, Go.nat_join k _ _ (Nat.mul_mod_right _ _) hs]
theorem rotr_law {a n : Nat} (ha : a < 2 ^ 64) (hn : n < 64) : rotlN a ((64 - n) % 64) = rotrN a n := by
  rcases Nat.eq_zero_or_pos n with h | h
  · subst h
    unfold rotlN rotrN
    simp only [Nat.sub_zero, Nat.mod_self, Nat.pow_zero, Nat.one_mul, Nat.mod_one, Nat.mul_zero, Nat.zero_add, Nat.div_one]
    rw [Nat.mod_eq_of_lt ha, Nat.div_eq_of_lt ha, Nat.add_zero]
  · rw [Nat.mod_eq_of_lt (by omega)]
    unfold rotlN rotrN
    rw [show 64 - (64 - n) = n by omega]
theorem sub_law {a b : Nat} (ha : a < 2 ^ 64) (hb : b < 2 ^ 64) : IntKind.u64.wrap ((a : Int) - b) = (((a + (2 ^ 64 - 1 - b) + 1) % 2 ^ 64 : Nat) : Int) := by
  rw [wrapu]; omega
theorem add_law (a b : Nat) : IntKind.u64.wrap ((a : Int) + b) = (((a + b) % 2 ^ 64 : Nat) : Int) := by rw [wrapu]; omega
theorem mul_law (a b : Nat) : IntKind.u64.wrap ((a : Int) * b) = ((a * b % 2 ^ 64 : Nat) : Int) := by rw [← wrap_nat]; simp
theorem and63 {b : Nat} (hb : b < 2 ^ 64) : bits BinOp.and IntKind.u64 (b : Int) 63 = ((b % 64 : Nat) : Int) := by
  rw [show (63 : Int) = ((63 : Nat) : Int) from rfl, Go.u64_and_nat _ _ hb (by decide), Go.nat_mask6]

/-! ### the highest bit turned -/
def flip63 (a : Nat) : Nat := if a.testBit 63 then a - 2 ^ 63 else a + 2 ^ 63
theorem flip_law {a : Nat} (ha : a < 2 ^ 64) : bits BinOp.xor IntKind.u64 (a : Int) 9223372036854775808 = ((flip63 a : Nat) : Int) := by
  rw [show (9223372036854775808 : Int) = ((2 ^ 63 : Nat) : Int) from rfl, Go.u64_xor_nat _ _ ha (by decide)]
  congr 1
  have hl : a % 2 ^ 63 < 2 ^ 63 := Nat.mod_lt _ (by decide)
  have e : flip63 a = 2 ^ 63 * (1 - a / 2 ^ 63) + a % 2 ^ 63 := by
    unfold flip63
    rw [bit63 ha]
    by_cases h : 2 ^ 63 ≤ a
    · simp only [h, decide_true, if_true]; omega
    · simp only [h, decide_false, Bool.false_eq_true, if_false]; omega
  rw [e]
  apply Nat.eq_of_testBit_eq
  intro i
  rw [Nat.testBit_two_pow_mul_add _ hl, Nat.testBit_xor]
  by_cases hi : i < 63
  · rw [if_pos hi, Nat.testBit_mod_two_pow, Nat.testBit_two_pow]
    simp [hi, show ¬ 63 = i by omega]
  · rw [if_neg hi]
    by_cases h63 : i = 63
    · subst h63
      rw [Nat.testBit_two_pow, bit63 ha]
      by_cases h : 2 ^ 63 ≤ a
      · rw [show 1 - a / 2 ^ 63 = 0 by omega]; simp; omega
      · rw [show 1 - a / 2 ^ 63 = 1 by omega]; simp; omega
    · have h1 : a.testBit i = false := testBit_big ha (by omega)
      rw [h1, Nat.testBit_two_pow]
      have : 1 - a / 2 ^ 63 < 2 ^ (i - 63) := Nat.lt_of_le_of_lt (Nat.sub_le _ _) (Nat.one_lt_two_pow (by omega))
      rw [Nat.testBit_lt_two_pow this]
      simp; omega
theorem flip_eq {a b : Nat} (ha : a < 2 ^ 64) (hb : b < 2 ^ 64) : (flip63 a = flip63 b) ↔ a = b := by
  unfold flip63
  rw [bit63 ha, bit63 hb]
  by_cases h : 2 ^ 63 ≤ a <;> by_cases h' : 2 ^ 63 ≤ b <;> simp [h, h'] <;> omega
theorem flip_lt {a b : Nat} (ha : a < 2 ^ 64) (hb : b < 2 ^ 64) : decide (flip63 a < flip63 b) = if a.testBit 63 != b.testBit 63 then a.testBit 63 else decide (a < b) := by
  unfold flip63
  rw [bit63 ha, bit63 hb]
  by_cases h : 2 ^ 63 ≤ a <;> by_cases h' : 2 ^ 63 ≤ b <;> simp [h, h'] <;> omega
end Go.Proofs.Ytfechgpdlabgaaa
